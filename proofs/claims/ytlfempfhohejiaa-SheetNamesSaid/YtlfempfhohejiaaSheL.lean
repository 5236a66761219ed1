/- Reading a sheet: the plain side, and the answer's Read. No condition but at most 1,000 boxes and decisions. Printed by gen_shel.py. -/
import Derived.Test.YtlfempfhohejiaaSheK
namespace Go.Proofs.Ytlfempfhohejiaa
open Go.RowKit Go.Suf
set_option linter.unusedVariables false
set_option linter.unusedSimpArgs false

def okD (p : PQ) (xs : List Nat) (l : List DQ) (i : Nat) : Prop := (0 ≤ (dth l i).bx ∧ (dth l i).bx < (xs.length : Int) ∧ doubtB p (nth xs (dth l i).bx.toNat) = true) ∧ ∀ k, k < i → ¬ (dth l k).bx = (dth l i).bx
instance (p : PQ) (xs : List Nat) (l : List DQ) (i : Nat) : Decidable (okD p xs l i) := by unfold okD; infer_instance
def decB (p : PQ) (xs : List Nat) (l : List DQ) : Bool := decide (∀ i, i < l.length → okD p xs l i)
def zeroR : RQ := ⟨0, [], 0, []⟩
def bodyR (k n rule : Nat) (p : PQ) (mk : List Bool) : List Int × Int := if k = 1 then ranksR mk n p.skips else if k = 3 then scoresR mk n else marksR mk (marksN rule (n : Nat))
def readR (nm : ByteArray) (ss : List ByteArray) (seats : Int) (rule : Nat) (p : PQ) (xs : List Nat) (l : List DQ) : RQ × Int :=
  if sheetC nm ss seats rule xs = 0 then
    (if mayP p = true then
      (if xs.length < l.length then (zeroR, 4)
       else if decB p xs l = true then (⟨kindN rule, (bodyR (kindN rule) ss.length rule p (markL p xs l xs.length)).1, (bodyR (kindN rule) ss.length rule p (markL p xs l xs.length)).2, dbtL p xs l xs.length⟩, 0)
       else (zeroR, 2))
     else (zeroR, 2))
  else (zeroR, sheetC nm ss seats rule xs)
theorem decB_no {p : PQ} {xs : List Nat} {l : List DQ} {i : Nat} (hi : i < l.length) (h : ¬ okD p xs l i) : decB p xs l = false := decide_eq_false fun hh => h (hh i hi)
theorem sheet_ok {nm : ByteArray} {ss : List ByteArray} {seats : Int} {rule : Nat} {xs : List Nat} (h : sheetC nm ss seats rule xs = 0) : checkC nm ss seats rule = 0 ∧ xs.length = boxesN ss rule := by
  unfold sheetC at h
  by_cases h1 : checkC nm ss seats rule = 0
  · rw [if_pos h1] at h
    by_cases h2 : xs.length = boxesN ss rule ∧ (xs.any fun x => decide (100 < x)) = false
    · exact ⟨h1, h2.1⟩
    · rw [if_neg h2] at h; cases h
  · rw [if_neg h1] at h; exact absurd h h1
theorem kind_in {rule : Nat} (h : isR rule = true) : kindN rule = 1 ∨ kindN rule = 2 ∨ kindN rule = 3 := by
  rw [← kindOf_eq rule h]
  unfold kindOf
  split
  · exact .inr (.inl rfl)
  split
  · exact .inr (.inr rfl)
  · exact .inl rfl

/-- A reading of new memory, and an error. -/
def RetR (w : World) (r : RQ × Int) : Ending → World → Prop := fun e w' =>
  ∃ a n c b m d, e = .returned (.tuple #[.agg #[.int .u8 ((r.1.kd : Nat) : Int), .slice a n c, .int .i64 r.1.ov, .slice b m d], .int .i64 r.2]) ∧ OwI w.heap.size w' a n c r.1.ms ∧ OwI w.heap.size w' b m d r.1.ds ∧ Below w.heap.size w w'
theorem RetR.nils {w w1 : World} {r : RQ × Int} {x : Int} (hr : r = (zeroR, x)) (hb : Below w.heap.size w w1) : RetR w r (.returned (.tuple #[.agg #[.int .u8 0, .slice none 0 0, .int .i64 0, .slice none 0 0], .int .i64 x])) w1 := by
  subst hr
  exact ⟨none, 0, 0, none, 0, 0, rfl, OwG.nil _ _ _ _ _, OwG.nil _ _ _ _ _, hb⟩

end Go.Proofs.Ytlfempfhohejiaa
namespace Go.Suf
open Go.RowKit Go.Suf
open Go.Proofs.Ytlfempfhohejiaa
set_option linter.unusedVariables false
set_option linter.unusedSimpArgs false
theorem OwG.setLow {α : Type} {enc : α → Value} {ok : α → Prop} {e : TypeId} {base g i : Nat} {w : World} {a : Option Addr} {n cap : Nat} {xs : List α} (h : OwG enc ok e base w a n cap xs) (hg : g < base) (v : Value) : OwG enc ok e base (w.setCell ⟨g, i, none⟩ v) a n cap xs := by
  refine ⟨h.len, ⟨h.own.1, ?_⟩, h.bd⟩
  rcases h.own.2 with h2 | ⟨b, c, cur, hv, hb, hh, r⟩
  · exact .inl h2
  · exact .inr ⟨b, c, cur, hv, hb, (heap_setCell_other w ⟨g, i, none⟩ b v (by show b ≠ g; omega)).trans hh, r⟩
theorem OwG.rowLow {α : Type} {enc : α → Value} {ok : α → Prop} {e : TypeId} {base g : Nat} {w : World} {a : Option Addr} {n cap : Nat} {xs : List α} (h : OwG enc ok e base w a n cap xs) (hg : g < base) (cs : Array Value) : OwG enc ok e base (w.setRow g cs) a n cap xs := by
  refine ⟨h.len, ⟨h.own.1, ?_⟩, h.bd⟩
  rcases h.own.2 with h2 | ⟨b, c, cur, hv, hb, hh, r⟩
  · exact .inl h2
  · exact .inr ⟨b, c, cur, hv, hb, (setRow_other _ _ _ _ (by omega)).trans hh, r⟩
end Go.Suf
namespace Go.Proofs.Ytlfempfhohejiaa
open Go.RowKit Go.Suf
set_option linter.unusedVariables false
set_option linter.unusedSimpArgs false
set_option maxRecDepth 100000 in
set_option maxHeartbeats 8000000 in
theorem refRead_any (w : World) (nm : ByteArray) {a_s : Option Addr} {n_s c_s : Nat} {ss : List ByteArray} (h_s : RdS w a_s n_s c_s ss) (seats : Int) (hs1 : -9223372036854775808 ≤ seats) (hs2 : seats ≤ 9223372036854775807) (rule : Nat) (hr : rule < 256) (p : PQ) (pw : PW p) {a_x : Option Addr} {n_x c_x : Nat} {xs : List Nat} (h_x : Rd .u8 w a_x n_x c_x xs) {a_d : Option Addr} {n_d c_d : Nat} {ds : List DQ} (h_d : RdD w a_d n_d c_d ds) (hnx : n_x ≤ 1000) (hnd : n_d ≤ 1000) : Calls Try.prog 21 #[.agg #[.string nm, .slice a_s n_s c_s, .int .i64 seats, .int .u8 ((rule : Nat) : Int)], .agg (polc p), .agg #[.slice a_x n_x c_x], .slice a_d n_d c_d] w (RetR w (readR nm ss seats rule p xs ds)) := by
  have HN := Lib.hid h_s.len
  have hns := h_s.lt
  have HX := Lib.hid h_x.len
  have HD := Lib.hid h_d.len
  have PWW := Lib.hid pw
  obtain ⟨r, hr0⟩ : ∃ r, readR nm ss seats rule p xs ds = r := ⟨_, rfl⟩
  rw [hr0]
  have HR := Lib.hid hr0
  clear hr0
  obtain ⟨sc, hsc⟩ : ∃ sc, sheetC nm ss seats rule xs = sc := ⟨_, rfl⟩
  have HSC := Lib.hid hsc
  clear hsc
  obtain ⟨mp, hmp⟩ : ∃ mp, mayP p = mp := ⟨_, rfl⟩
  have HMP := Lib.hid hmp
  clear hmp
  have B0 : Below w.heap.size w w := Below.refl _ _
  have h_s_0 := h_s
  have h_x_0 := h_x
  have h_d_0 := h_d
  go_enter Try.func21, Try.ntmps21
  have hb := below_al w (.cells #[.string nm, .slice a_s n_s c_s, .int .i64 seats, .int .u8 ((rule : Nat) : Int)] 24)
  have B1 := B0.trans (hb.mono B0.size)
  have h_s_1 := h_s_0.below hb
  have h_x_1 := h_x_0.below hb
  have h_d_1 := h_d_0.below hb
  clear hb B0 h_s_0 h_x_0 h_d_0
  have h_c_1 := PRow.new 24 w #[.string nm, .slice a_s n_s c_s, .int .i64 seats, .int .u8 ((rule : Nat) : Int)]
  have hb := below_al (w.alloc (.cells #[.string nm, .slice a_s n_s c_s, .int .i64 seats, .int .u8 ((rule : Nat) : Int)] 24)) (.cells (polc p) 48)
  have B2 := B1.trans (hb.mono B1.size)
  have h_s_2 := h_s_1.below hb
  have h_x_2 := h_x_1.below hb
  have h_d_2 := h_d_1.below hb
  have h_c_2 := h_c_1.later hb
  clear hb B1 h_s_1 h_x_1 h_d_1 h_c_1
  have h_p_2 := PRow.new 48 (w.alloc (.cells #[.string nm, .slice a_s n_s c_s, .int .i64 seats, .int .u8 ((rule : Nat) : Int)] 24)) (polc p)
  simp only [World.size_alloc] at h_p_2
  have hb := below_al ((w.alloc (.cells #[.string nm, .slice a_s n_s c_s, .int .i64 seats, .int .u8 ((rule : Nat) : Int)] 24)).alloc (.cells (polc p) 48)) (.cells #[.slice a_x n_x c_x] 27)
  have B3 := B2.trans (hb.mono B2.size)
  have h_s_3 := h_s_2.below hb
  have h_x_3 := h_x_2.below hb
  have h_d_3 := h_d_2.below hb
  have h_c_3 := h_c_2.later hb
  have h_p_3 := h_p_2.later hb
  clear hb B2 h_s_2 h_x_2 h_d_2 h_c_2 h_p_2
  have h_y_3 := PRow.new 27 ((w.alloc (.cells #[.string nm, .slice a_s n_s c_s, .int .i64 seats, .int .u8 ((rule : Nat) : Int)] 24)).alloc (.cells (polc p) 48)) #[.slice a_x n_x c_x]
  simp only [World.size_alloc] at h_y_3
  have HO0 := Lib.hid B3
  have hb := below_al (((w.alloc (.cells #[.string nm, .slice a_s n_s c_s, .int .i64 seats, .int .u8 ((rule : Nat) : Int)] 24)).alloc (.cells (polc p) 48)).alloc (.cells #[.slice a_x n_x c_x] 27)) (.cells #[.int .u8 0, .slice none 0 0, .int .i64 0, .slice none 0 0] 51)
  have B4 := B3.trans (hb.mono B3.size)
  have h_s_4 := h_s_3.below hb
  have h_x_4 := h_x_3.below hb
  have h_d_4 := h_d_3.below hb
  have h_c_4 := h_c_3.later hb
  have h_p_4 := h_p_3.later hb
  have h_y_4 := h_y_3.later hb
  clear hb B3 h_s_3 h_x_3 h_d_3 h_c_3 h_p_3 h_y_3
  have h_o_4 := PRow.new 51 (((w.alloc (.cells #[.string nm, .slice a_s n_s c_s, .int .i64 seats, .int .u8 ((rule : Nat) : Int)] 24)).alloc (.cells (polc p) 48)).alloc (.cells #[.slice a_x n_x c_x] 27)) #[.int .u8 0, .slice none 0 0, .int .i64 0, .slice none 0 0]
  simp only [World.size_alloc] at h_o_4
  have k_c_0 := h_c_4.cell 0 _ rfl
  have k_c_1 := h_c_4.cell 1 _ rfl
  have k_c_2 := h_c_4.cell 2 _ rfl
  have k_c_3 := h_c_4.cell 3 _ rfl
  have k_y_0 := h_y_4.cell 0 _ rfl
  go_wp2_with fail
  clear k_c_0 k_c_1 k_c_2 k_c_3 k_y_0
  generalize ((((w.alloc (.cells #[.string nm, .slice a_s n_s c_s, .int .i64 seats, .int .u8 ((rule : Nat) : Int)] 24)).alloc (.cells (polc p) 48)).alloc (.cells #[.slice a_x n_x c_x] 27)).alloc (.cells #[.int .u8 0, .slice none 0 0, .int .i64 0, .slice none 0 0] 51)) = w4 at *
  have c := refSheetCheck_any w4 nm h_s_4 seats hs1 hs2 rule hr h_x_4
  rw [HSC.out] at c
  refine c.mono ?_
  rintro e w5 ⟨rfl, hb⟩
  clear c
  have B5 := B4.trans (hb.mono B4.size)
  have h_s_5 := h_s_4.below hb
  have h_x_5 := h_x_4.below hb
  have h_d_5 := h_d_4.below hb
  have h_c_5 := h_c_4.later hb
  have h_p_5 := h_p_4.later hb
  have h_y_5 := h_y_4.later hb
  have h_o_5 := h_o_4.later hb
  clear hb B4 h_s_4 h_x_4 h_d_4 h_c_4 h_p_4 h_y_4 h_o_4
  by_cases hsc : sc = 0
  case neg =>
    have e1 : (sc == (0 : Int)) = false := by simpa using hsc
    have e2 : (sc != (0 : Int)) = true := by simpa using hsc
    have HRR := Lib.hid (show r = (zeroR, sc) by rw [← HR.out]; unfold readR; rw [HSC.out, if_neg hsc])
    have R := h_o_5
    go_wp2_with first | refine wpList_store_whole rfl 51 _ _ rfl atRea _ _ _ R.row rfl rfl rfl rfl (rea_one 0 0 none none 0 0 0 0) ?_
    refine bodyPost_ret (results_cell_two rfl _ _ _ _ _ _ _ rfl (setRow_heap _ _ _ _ _ _ R.row) Try.underlying51 rfl (by kernel_rfl) _ rfl) rfl ?_
    exact RetR.nils HRR.out (HO0.out.trans ((R.put _).below.mono HO0.out.size))
  subst hsc
  obtain ⟨s1, s2⟩ := sheet_ok HSC.out
  obtain ⟨g1, g2, g3⟩ := chk_rule s1
  have HQ3 := Lib.hid g3
  have HNB := Lib.hid s2
  have HKI := Lib.hid (kind_in g3)
  rw [HN.out] at g1 g2
  clear s1 s2 g3
  have HR1 := Lib.hid (show r = if mp = true then (if xs.length < ds.length then (zeroR, 4) else if decB p xs ds = true then (⟨kindN rule, (bodyR (kindN rule) ss.length rule p (markL p xs ds xs.length)).1, (bodyR (kindN rule) ss.length rule p (markL p xs ds xs.length)).2, dbtL p xs ds xs.length⟩, 0) else (zeroR, 2)) else (zeroR, 2) by rw [← HR.out]; unfold readR; rw [HSC.out, if_pos rfl, HMP.out])
  have k_p_0 := h_p_5.cell 0 _ rfl
  have k_p_1 := h_p_5.cell 1 _ rfl
  have k_p_2 := h_p_5.cell 2 _ rfl
  go_wp2_with fail
  clear k_p_0 k_p_1 k_p_2
  have c := MayPolicy_any w5 p PWW.out
  rw [HMP.out] at c
  refine c.mono ?_
  rintro e w6 ⟨rfl, hb⟩
  clear c
  have B6 := B5.trans (hb.mono B5.size)
  have h_s_6 := h_s_5.below hb
  have h_x_6 := h_x_5.below hb
  have h_d_6 := h_d_5.below hb
  have h_c_6 := h_c_5.later hb
  have h_p_6 := h_p_5.later hb
  have h_y_6 := h_y_5.later hb
  have h_o_6 := h_o_5.later hb
  clear hb B5 h_s_5 h_x_5 h_d_5 h_c_5 h_p_5 h_y_5 h_o_5
  cases mp
  case false =>
    have HRR := Lib.hid (show r = (zeroR, 2) by rw [HR1.out]; rfl)
    have R := h_o_6
    go_wp2_with first | refine wpList_store_whole rfl 51 _ _ rfl atRea _ _ _ R.row rfl rfl rfl rfl (rea_one 0 0 none none 0 0 0 0) ?_
    refine bodyPost_ret (results_cell_two rfl _ _ _ _ _ _ _ rfl (setRow_heap _ _ _ _ _ _ R.row) Try.underlying51 rfl (by kernel_rfl) _ rfl) rfl ?_
    exact RetR.nils HRR.out (HO0.out.trans ((R.put _).below.mono HO0.out.size))
  case true =>
    by_cases hld : n_x < n_d
    case pos =>
      have hd : decide (((n_d : Nat) : Int) > ((n_x : Nat) : Int)) = true := decide_eq_true (by omega)
      have HRR := Lib.hid (show r = (zeroR, 4) by rw [HR1.out, if_pos rfl, if_pos (by rw [HX.out, HD.out]; exact hld)])
      have R := h_o_6
      have k_y_0 := h_y_6.cell 0 _ rfl
      go_wp2_with first | refine wpList_store_whole rfl 51 _ _ rfl atRea _ _ _ R.row rfl rfl rfl rfl (rea_one 0 0 none none 0 0 0 0) ?_
      clear k_y_0
      refine bodyPost_ret (results_cell_two rfl _ _ _ _ _ _ _ rfl (setRow_heap _ _ _ _ _ _ R.row) Try.underlying51 rfl (by kernel_rfl) _ rfl) rfl ?_
      exact RetR.nils HRR.out (HO0.out.trans ((R.put _).below.mono HO0.out.size))
    have hd : decide (((n_d : Nat) : Int) > ((n_x : Nat) : Int)) = false := decide_eq_false (by omega)
    have HR2 := Lib.hid (show r = if decB p xs ds = true then (⟨kindN rule, (bodyR (kindN rule) ss.length rule p (markL p xs ds xs.length)).1, (bodyR (kindN rule) ss.length rule p (markL p xs ds xs.length)).2, dbtL p xs ds xs.length⟩, 0) else (zeroR, 2) by rw [HR1.out, if_pos rfl, if_neg (by rw [HX.out, HD.out]; exact hld)])
    have k_y_0 := h_y_6.cell 0 _ rfl
    go_wp2_with fail
    clear k_y_0
    have H_c := Lib.hid h_c_6
    have H_p := Lib.hid h_p_6
    have H_y := Lib.hid h_y_6
    have H_o := Lib.hid h_o_6
    have H_x := Lib.hid h_x_6
    have H_d := Lib.hid h_d_6
    have H_s := Lib.hid h_s_6
    have H_B := Lib.hid B6
    go_loopw [11] (fun jv wr => ∃ i : Nat, i ≤ n_d ∧ jv = .int .i64 (i : Nat) ∧ Below w6.heap.size w6 wr ∧ Hid (∀ m, m < i → okD p xs ds m)) (fun jv _ => n_d - (intOf jv).toNat)
    case atStart => exact ⟨0, Nat.zero_le _, rfl, Below.refl _ _, Lib.hid fun m hm => absurd hm (by omega)⟩
    case round =>
      rename World => wr
      obtain ⟨i, hi, rfl, BT, hS⟩ := hrel
      by_cases hlt : i < n_d
      case pos =>
        have B300 := BT
        have h_p_300 := H_p.out.later BT
        have h_y_300 := H_y.out.later BT
        have h_o_300 := H_o.out.later BT
        have h_d_300 := H_d.out.below BT
        have h_x_300 := H_x.out.below BT
        clear BT
        have HDD := Lib.hid h_d_300
        obtain ⟨bd, od, rfl, hcc⟩ := h_d_300.addr (by omega)
        obtain ⟨kd, -⟩ := hcc i hlt
        clear hcc
        obtain ⟨bx, hbx⟩ : ∃ bx, (dth ds i).bx = bx := ⟨_, rfl⟩
        rw [hbx] at kd
        have HBX := Lib.hid hbx
        clear hbx
        by_cases b0 : bx < 0
        case pos =>
          have d0 : decide (bx < 0) = true := decide_eq_true b0
          go_upto_region 11 with fail
          have hb := (Below.refl wr.heap.size wr).drew
          replace kd := cell_below hb kd
          have B301 := B300.trans (hb.mono B300.size)
          have h_p_301 := h_p_300.later hb
          have h_y_301 := h_y_300.later hb
          have h_o_301 := h_o_300.later hb
          have h_d_301 := h_d_300.below hb
          have h_x_301 := h_x_300.below hb
          clear hb B300 h_p_300 h_y_300 h_o_300 h_d_300 h_x_300
          refine wp_region_held_drew (S := (fun w' => w'.cell? ⟨bd, od + i * 2, none⟩ = some (.int .i64 bx) ∧ True)) (by kernel_rfl) ?_ (fun hHeld => ?_)
          · exact ⟨kd, trivial⟩
          generalize wr.drew = w301 at *
          refine wpAnyH_take (i := 0) (oi := ?oir1_0) (v := ?vr1_0) ?hir1_0 (by kernel_rfl) (by kernel_rfl) (by kernel_rfl) ?hqr1_0 ?hyr1_0 (by assumption) ?restr1_0
          case hir1_0 => simp only [List.getElem?_toArray, List.getElem?_cons_succ, List.getElem?_cons_zero]; rfl
          case hqr1_0 => exact fun _ _ _ h => h
          case hyr1_0 => (refine Or.inl ⟨by rfl, ?_⟩; intro w hSw; (try dsimp only at hSw); go_simp; all_goals with_reducible rfl)
          try simp only [Act.put, List.setIfInBounds_toArray, List.set_cons_zero, List.set_cons_succ]
          refine wpAnyH_take (i := 1) (oi := ?oir1_1) (v := ?vr1_1) ?hir1_1 (by kernel_rfl) (by kernel_rfl) (by kernel_rfl) ?hqr1_1 ?hyr1_1 (by assumption) ?restr1_1
          case hir1_1 => simp only [List.getElem?_toArray, List.getElem?_cons_succ, List.getElem?_cons_zero]; rfl
          case hqr1_1 => exact fun _ _ _ h => h
          case hyr1_1 => (refine Or.inl ⟨by rfl, ?_⟩; intro w hSw; (try dsimp only at hSw); go_simp; all_goals with_reducible rfl)
          try simp only [Act.put, List.setIfInBounds_toArray, List.set_cons_zero, List.set_cons_succ]
          refine wpAnyH_take (i := 2) (oi := ?oir1_2) (v := ?vr1_2) ?hir1_2 (by kernel_rfl) (by kernel_rfl) (by kernel_rfl) ?hqr1_2 ?hyr1_2 (by assumption) ?restr1_2
          case hir1_2 => simp only [List.getElem?_toArray, List.getElem?_cons_succ, List.getElem?_cons_zero]; rfl
          case hqr1_2 => exact fun _ _ _ h => h
          case hyr1_2 => (refine Or.inl ⟨by rfl, ?_⟩; intro w hSw; (try dsimp only at hSw); go_simp; all_goals with_reducible rfl)
          try simp only [Act.put, List.setIfInBounds_toArray, List.set_cons_zero, List.set_cons_succ]
          refine wpAnyH_take (i := 3) (oi := ?oir1_3) (v := ?vr1_3) ?hir1_3 (by kernel_rfl) (by kernel_rfl) (by kernel_rfl) ?hqr1_3 ?hyr1_3 (by assumption) ?restr1_3
          case hir1_3 => simp only [List.getElem?_toArray, List.getElem?_cons_succ, List.getElem?_cons_zero]; rfl
          case hqr1_3 => exact fun _ _ _ h => h
          case hyr1_3 => (refine Or.inl ⟨by rfl, ?_⟩; intro w hSw; (try dsimp only at hSw); go_simp; all_goals with_reducible rfl)
          try simp only [Act.put, List.setIfInBounds_toArray, List.set_cons_zero, List.set_cons_succ]
          refine wpAnyH_take (i := 4) (oi := ?oir1_4) (v := ?vr1_4) ?hir1_4 (by kernel_rfl) (by kernel_rfl) (by kernel_rfl) ?hqr1_4 ?hyr1_4 (by assumption) ?restr1_4
          case hir1_4 => simp only [List.getElem?_toArray, List.getElem?_cons_succ, List.getElem?_cons_zero]; rfl
          case hqr1_4 => exact fun _ _ _ h => h
          case hyr1_4 => (refine Or.inl ⟨by rfl, ?_⟩; intro w hSw; (try dsimp only at hSw); go_simp; all_goals with_reducible rfl)
          try simp only [Act.put, List.setIfInBounds_toArray, List.set_cons_zero, List.set_cons_succ]
          refine wpAnyH_take (i := 5) (oi := ?oir1_5) (v := ?vr1_5) ?hir1_5 (by kernel_rfl) (by kernel_rfl) (by kernel_rfl) ?hqr1_5 ?hyr1_5 (by assumption) ?restr1_5
          case hir1_5 => simp only [List.getElem?_toArray, List.getElem?_cons_succ, List.getElem?_cons_zero]; rfl
          case hqr1_5 => exact fun _ _ _ h => h
          case hyr1_5 => (refine Or.inl ⟨by rfl, ?_⟩; intro w hSw; (try dsimp only at hSw); go_simp; all_goals with_reducible rfl)
          try simp only [Act.put, List.setIfInBounds_toArray, List.set_cons_zero, List.set_cons_succ]
          refine wpAnyH_take (i := 6) (oi := ?oir1_6) (v := ?vr1_6) ?hir1_6 (by kernel_rfl) (by kernel_rfl) (by kernel_rfl) ?hqr1_6 ?hyr1_6 (by assumption) ?restr1_6
          case hir1_6 => simp only [List.getElem?_toArray, List.getElem?_cons_succ, List.getElem?_cons_zero]; rfl
          case hqr1_6 => exact fun _ _ _ h => h
          case hyr1_6 => (refine Or.inl ⟨by rfl, ?_⟩; intro w hSw; (try dsimp only at hSw); go_simp; all_goals with_reducible rfl)
          try simp only [Act.put, List.setIfInBounds_toArray, List.set_cons_zero, List.set_cons_succ]
          refine wpAnyH_take (i := 7) (oi := ?oir1_7) (v := undef) ?hir1_7 (by kernel_rfl) (by kernel_rfl) (by kernel_rfl) ?hqr1_7 ?hyr1_7 (by assumption) ?restr1_7
          case hir1_7 => simp only [List.getElem?_toArray, List.getElem?_cons_succ, List.getElem?_cons_zero]; rfl
          case hqr1_7 => exact fun _ _ _ h => h
          case hyr1_7 => exact Or.inr ⟨by rfl, rfl⟩
          try simp only [Act.put, List.setIfInBounds_toArray, List.set_cons_zero, List.set_cons_succ]
          refine wpAnyH_take (i := 8) (oi := ?oir1_8) (v := undef) ?hir1_8 (by kernel_rfl) (by kernel_rfl) (by kernel_rfl) ?hqr1_8 ?hyr1_8 (by assumption) ?restr1_8
          case hir1_8 => simp only [List.getElem?_toArray, List.getElem?_cons_succ, List.getElem?_cons_zero]; rfl
          case hqr1_8 => exact fun _ _ _ h => h
          case hyr1_8 => exact Or.inr ⟨by rfl, rfl⟩
          try simp only [Act.put, List.setIfInBounds_toArray, List.set_cons_zero, List.set_cons_succ]
          refine wpAnyH_take (i := 9) (oi := ?oir1_9) (v := undef) ?hir1_9 (by kernel_rfl) (by kernel_rfl) (by kernel_rfl) ?hqr1_9 ?hyr1_9 (by assumption) ?restr1_9
          case hir1_9 => simp only [List.getElem?_toArray, List.getElem?_cons_succ, List.getElem?_cons_zero]; rfl
          case hqr1_9 => exact fun _ _ _ h => h
          case hyr1_9 => exact Or.inr ⟨by rfl, rfl⟩
          try simp only [Act.put, List.setIfInBounds_toArray, List.set_cons_zero, List.set_cons_succ]
          refine wpAnyH_take (i := 10) (oi := ?oir1_10) (v := undef) ?hir1_10 (by kernel_rfl) (by kernel_rfl) (by kernel_rfl) ?hqr1_10 ?hyr1_10 (by assumption) ?restr1_10
          case hir1_10 => simp only [List.getElem?_toArray, List.getElem?_cons_succ, List.getElem?_cons_zero]; rfl
          case hqr1_10 => exact fun _ _ _ h => h
          case hyr1_10 => exact Or.inr ⟨by rfl, rfl⟩
          try simp only [Act.put, List.setIfInBounds_toArray, List.set_cons_zero, List.set_cons_succ]
          refine wpAnyH_take (i := 11) (oi := ?oir1_11) (v := undef) ?hir1_11 (by kernel_rfl) (by kernel_rfl) (by kernel_rfl) ?hqr1_11 ?hyr1_11 (by assumption) ?restr1_11
          case hir1_11 => simp only [List.getElem?_toArray, List.getElem?_cons_succ, List.getElem?_cons_zero]; rfl
          case hqr1_11 => exact fun _ _ _ h => h
          case hyr1_11 => exact Or.inr ⟨by rfl, rfl⟩
          try simp only [Act.put, List.setIfInBounds_toArray, List.set_cons_zero, List.set_cons_succ]
          refine wpAnyH_take (i := 12) (oi := ?oir1_12) (v := undef) ?hir1_12 (by kernel_rfl) (by kernel_rfl) (by kernel_rfl) ?hqr1_12 ?hyr1_12 (by assumption) ?restr1_12
          case hir1_12 => simp only [List.getElem?_toArray, List.getElem?_cons_succ, List.getElem?_cons_zero]; rfl
          case hqr1_12 => exact fun _ _ _ h => h
          case hyr1_12 => exact Or.inr ⟨by rfl, rfl⟩
          try simp only [Act.put, List.setIfInBounds_toArray, List.set_cons_zero, List.set_cons_succ]
          refine wpAnyH_take (i := 13) (oi := ?oir1_13) (v := undef) ?hir1_13 (by kernel_rfl) (by kernel_rfl) (by kernel_rfl) ?hqr1_13 ?hyr1_13 (by assumption) ?restr1_13
          case hir1_13 => simp only [List.getElem?_toArray, List.getElem?_cons_succ, List.getElem?_cons_zero]; rfl
          case hqr1_13 => exact fun _ _ _ h => h
          case hyr1_13 => exact Or.inr ⟨by rfl, rfl⟩
          try simp only [Act.put, List.setIfInBounds_toArray, List.set_cons_zero, List.set_cons_succ]
          refine wpAnyH_take (i := 14) (oi := ?oir1_14) (v := undef) ?hir1_14 (by kernel_rfl) (by kernel_rfl) (by kernel_rfl) ?hqr1_14 ?hyr1_14 (by assumption) ?restr1_14
          case hir1_14 => simp only [List.getElem?_toArray, List.getElem?_cons_succ, List.getElem?_cons_zero]; rfl
          case hqr1_14 => exact fun _ _ _ h => h
          case hyr1_14 => exact Or.inr ⟨by rfl, rfl⟩
          try simp only [Act.put, List.setIfInBounds_toArray, List.set_cons_zero, List.set_cons_succ]
          refine wpAnyH_take (i := 15) (oi := ?oir1_15) (v := undef) ?hir1_15 (by kernel_rfl) (by kernel_rfl) (by kernel_rfl) ?hqr1_15 ?hyr1_15 (by assumption) ?restr1_15
          case hir1_15 => simp only [List.getElem?_toArray, List.getElem?_cons_succ, List.getElem?_cons_zero]; rfl
          case hqr1_15 => exact fun _ _ _ h => h
          case hyr1_15 => exact Or.inr ⟨by rfl, rfl⟩
          try simp only [Act.put, List.setIfInBounds_toArray, List.set_cons_zero, List.set_cons_succ]
          refine wpAnyH_take (i := 16) (oi := ?oir1_16) (v := ?vr1_16) ?hir1_16 (by kernel_rfl) (by kernel_rfl) (by kernel_rfl) ?hqr1_16 ?hyr1_16 (by assumption) ?restr1_16
          case hir1_16 => simp only [List.getElem?_toArray, List.getElem?_cons_succ, List.getElem?_cons_zero]; rfl
          case hqr1_16 => exact fun _ _ _ h => h
          case hyr1_16 => (refine Or.inl ⟨by rfl, ?_⟩; intro w hSw; (try dsimp only at hSw); go_simp; all_goals with_reducible rfl)
          try simp only [Act.put, List.setIfInBounds_toArray, List.set_cons_zero, List.set_cons_succ]
          refine wpAnyH_take (i := 17) (oi := ?oir1_17) (v := ?vr1_17) ?hir1_17 (by kernel_rfl) (by kernel_rfl) (by kernel_rfl) ?hqr1_17 ?hyr1_17 (by assumption) ?restr1_17
          case hir1_17 => simp only [List.getElem?_toArray, List.getElem?_cons_succ, List.getElem?_cons_zero]; rfl
          case hqr1_17 => exact fun _ _ _ h => h
          case hyr1_17 => (refine Or.inl ⟨by rfl, ?_⟩; intro w hSw; (try dsimp only at hSw); go_simp; all_goals with_reducible rfl)
          try simp only [Act.put, List.setIfInBounds_toArray, List.set_cons_zero, List.set_cons_succ]
          refine wpAnyH_take (i := 18) (oi := ?oir1_18) (v := undef) ?hir1_18 (by kernel_rfl) (by kernel_rfl) (by kernel_rfl) ?hqr1_18 ?hyr1_18 (by assumption) ?restr1_18
          case hir1_18 => simp only [List.getElem?_toArray, List.getElem?_cons_succ, List.getElem?_cons_zero]; rfl
          case hqr1_18 => exact fun _ _ _ h => h
          case hyr1_18 => exact Or.inr ⟨by rfl, rfl⟩
          try simp only [Act.put, List.setIfInBounds_toArray, List.set_cons_zero, List.set_cons_succ]
          refine wpAnyH_take (i := 19) (oi := ?oir1_19) (v := undef) ?hir1_19 (by kernel_rfl) (by kernel_rfl) (by kernel_rfl) ?hqr1_19 ?hyr1_19 (by assumption) ?restr1_19
          case hir1_19 => simp only [List.getElem?_toArray, List.getElem?_cons_succ, List.getElem?_cons_zero]; rfl
          case hqr1_19 => exact fun _ _ _ h => h
          case hyr1_19 => exact Or.inr ⟨by rfl, rfl⟩
          try simp only [Act.put, List.setIfInBounds_toArray, List.set_cons_zero, List.set_cons_succ]
          refine wpAnyH_take (i := 20) (oi := ?oir1_20) (v := undef) ?hir1_20 (by kernel_rfl) (by kernel_rfl) (by kernel_rfl) ?hqr1_20 ?hyr1_20 (by assumption) ?restr1_20
          case hir1_20 => simp only [List.getElem?_toArray, List.getElem?_cons_succ, List.getElem?_cons_zero]; rfl
          case hqr1_20 => exact fun _ _ _ h => h
          case hyr1_20 => exact Or.inr ⟨by rfl, rfl⟩
          try simp only [Act.put, List.setIfInBounds_toArray, List.set_cons_zero, List.set_cons_succ]
          refine wpAnyH_take (i := 21) (oi := ?oir1_21) (v := undef) ?hir1_21 (by kernel_rfl) (by kernel_rfl) (by kernel_rfl) ?hqr1_21 ?hyr1_21 (by assumption) ?restr1_21
          case hir1_21 => simp only [List.getElem?_toArray, List.getElem?_cons_succ, List.getElem?_cons_zero]; rfl
          case hqr1_21 => exact fun _ _ _ h => h
          case hyr1_21 => exact Or.inr ⟨by rfl, rfl⟩
          try simp only [Act.put, List.setIfInBounds_toArray, List.set_cons_zero, List.set_cons_succ]
          refine wpAnyH_take (i := 22) (oi := ?oir1_22) (v := undef) ?hir1_22 (by kernel_rfl) (by kernel_rfl) (by kernel_rfl) ?hqr1_22 ?hyr1_22 (by assumption) ?restr1_22
          case hir1_22 => simp only [List.getElem?_toArray, List.getElem?_cons_succ, List.getElem?_cons_zero]; rfl
          case hqr1_22 => exact fun _ _ _ h => h
          case hyr1_22 => exact Or.inr ⟨by rfl, rfl⟩
          try simp only [Act.put, List.setIfInBounds_toArray, List.set_cons_zero, List.set_cons_succ]
          refine wpAnyH_take (i := 23) (oi := ?oir1_23) (v := undef) ?hir1_23 (by kernel_rfl) (by kernel_rfl) (by kernel_rfl) ?hqr1_23 ?hyr1_23 (by assumption) ?restr1_23
          case hir1_23 => simp only [List.getElem?_toArray, List.getElem?_cons_succ, List.getElem?_cons_zero]; rfl
          case hqr1_23 => exact fun _ _ _ h => h
          case hyr1_23 => exact Or.inr ⟨by rfl, rfl⟩
          try simp only [Act.put, List.setIfInBounds_toArray, List.set_cons_zero, List.set_cons_succ]
          refine wpAnyH_take (i := 24) (oi := ?oir1_24) (v := undef) ?hir1_24 (by kernel_rfl) (by kernel_rfl) (by kernel_rfl) ?hqr1_24 ?hyr1_24 (by assumption) ?restr1_24
          case hir1_24 => simp only [List.getElem?_toArray, List.getElem?_cons_succ, List.getElem?_cons_zero]; rfl
          case hqr1_24 => exact fun _ _ _ h => h
          case hyr1_24 => exact Or.inr ⟨by rfl, rfl⟩
          try simp only [Act.put, List.setIfInBounds_toArray, List.set_cons_zero, List.set_cons_succ]
          refine wpAnyH_take (i := 25) (oi := ?oir1_25) (v := undef) ?hir1_25 (by kernel_rfl) (by kernel_rfl) (by kernel_rfl) ?hqr1_25 ?hyr1_25 (by assumption) ?restr1_25
          case hir1_25 => simp only [List.getElem?_toArray, List.getElem?_cons_succ, List.getElem?_cons_zero]; rfl
          case hqr1_25 => exact fun _ _ _ h => h
          case hyr1_25 => exact Or.inr ⟨by rfl, rfl⟩
          try simp only [Act.put, List.setIfInBounds_toArray, List.set_cons_zero, List.set_cons_succ]
          refine wpAnyH_take (i := 26) (oi := ?oir1_26) (v := undef) ?hir1_26 (by kernel_rfl) (by kernel_rfl) (by kernel_rfl) ?hqr1_26 ?hyr1_26 (by assumption) ?restr1_26
          case hir1_26 => simp only [List.getElem?_toArray, List.getElem?_cons_succ, List.getElem?_cons_zero]; rfl
          case hqr1_26 => exact fun _ _ _ h => h
          case hyr1_26 => exact Or.inr ⟨by rfl, rfl⟩
          try simp only [Act.put, List.setIfInBounds_toArray, List.set_cons_zero, List.set_cons_succ]
          refine wpAnyH_take (i := 27) (oi := ?oir1_27) (v := undef) ?hir1_27 (by kernel_rfl) (by kernel_rfl) (by kernel_rfl) ?hqr1_27 ?hyr1_27 (by assumption) ?restr1_27
          case hir1_27 => simp only [List.getElem?_toArray, List.getElem?_cons_succ, List.getElem?_cons_zero]; rfl
          case hqr1_27 => exact fun _ _ _ h => h
          case hyr1_27 => exact Or.inr ⟨by rfl, rfl⟩
          try simp only [Act.put, List.setIfInBounds_toArray, List.set_cons_zero, List.set_cons_succ]
          refine wpAnyH_take (i := 28) (oi := ?oir1_28) (v := undef) ?hir1_28 (by kernel_rfl) (by kernel_rfl) (by kernel_rfl) ?hqr1_28 ?hyr1_28 (by assumption) ?restr1_28
          case hir1_28 => simp only [List.getElem?_toArray, List.getElem?_cons_succ, List.getElem?_cons_zero]; rfl
          case hqr1_28 => exact fun _ _ _ h => h
          case hyr1_28 => exact Or.inr ⟨by rfl, rfl⟩
          try simp only [Act.put, List.setIfInBounds_toArray, List.set_cons_zero, List.set_cons_succ]
          refine wpAnyH_take (i := 29) (oi := ?oir1_29) (v := undef) ?hir1_29 (by kernel_rfl) (by kernel_rfl) (by kernel_rfl) ?hqr1_29 ?hyr1_29 (by assumption) ?restr1_29
          case hir1_29 => simp only [List.getElem?_toArray, List.getElem?_cons_succ, List.getElem?_cons_zero]; rfl
          case hqr1_29 => exact fun _ _ _ h => h
          case hyr1_29 => exact Or.inr ⟨by rfl, rfl⟩
          try simp only [Act.put, List.setIfInBounds_toArray, List.set_cons_zero, List.set_cons_succ]
          refine wpAnyH_take (i := 30) (oi := ?oir1_30) (v := ?vr1_30) ?hir1_30 (by kernel_rfl) (by kernel_rfl) (by kernel_rfl) ?hqr1_30 ?hyr1_30 (by assumption) ?restr1_30
          case hir1_30 => simp only [List.getElem?_toArray, List.getElem?_cons_succ, List.getElem?_cons_zero]; rfl
          case hqr1_30 => exact fun _ _ _ h => h
          case hyr1_30 => (refine Or.inl ⟨by rfl, ?_⟩; intro w hSw; (try dsimp only at hSw); go_simp; all_goals with_reducible rfl)
          try simp only [Act.put, List.setIfInBounds_toArray, List.set_cons_zero, List.set_cons_succ]
          refine wpAnyH_done (by kernel_rfl) ?_ _
          clear hHeld kd
          have HDB := Lib.hid (show decB p xs ds = false from decB_no (i := i) (by rw [HD.out]; exact hlt) (fun h => by have := h.1.1; rw [HBX.out] at this; omega))
          have HRR := Lib.hid (show r = (zeroR, 2) by rw [HR2.out, HDB.out]; rfl)
          have R := h_o_301
          go_wp2_with first | refine wpList_store_whole rfl 51 _ _ rfl atRea _ _ _ R.row rfl rfl rfl rfl (rea_one 0 0 none none 0 0 0 0) ?_
          refine bodyPost_ret (results_cell_two rfl _ _ _ _ _ _ _ rfl (setRow_heap _ _ _ _ _ _ R.row) Try.underlying51 rfl (by kernel_rfl) _ rfl) rfl ?_
          exact RetR.nils HRR.out (HO0.out.trans ((R.put _).below.mono HO0.out.size))
        have d0 : decide (bx < 0) = false := decide_eq_false b0
        have ky := h_y_300.cell 0 _ rfl
        by_cases b1 : bx < (n_x : Int)
        case neg =>
          have d1 : decide (bx ≥ ((n_x : Nat) : Int)) = true := decide_eq_true (by omega)
          have d2 : decide (((n_x : Nat) : Int) ≤ bx) = true := decide_eq_true (by omega)
          go_upto_region 11 with fail
          have hb := (Below.refl wr.heap.size wr).drew
          replace kd := cell_below hb kd
          replace ky := cell_below hb ky
          have B301 := B300.trans (hb.mono B300.size)
          have h_p_301 := h_p_300.later hb
          have h_y_301 := h_y_300.later hb
          have h_o_301 := h_o_300.later hb
          have h_d_301 := h_d_300.below hb
          have h_x_301 := h_x_300.below hb
          clear hb B300 h_p_300 h_y_300 h_o_300 h_d_300 h_x_300
          refine wp_region_held_drew (S := (fun w' => w'.cell? ⟨bd, od + i * 2, none⟩ = some (.int .i64 bx) ∧ w'.cell? ⟨w.heap.size + 1 + 1, 0, none⟩ = some (.slice a_x n_x c_x) ∧ True)) (by kernel_rfl) ?_ (fun hHeld => ?_)
          · exact ⟨kd, ky, trivial⟩
          generalize wr.drew = w301 at *
          refine wpAnyH_take (i := 0) (oi := ?oir2_0) (v := ?vr2_0) ?hir2_0 (by kernel_rfl) (by kernel_rfl) (by kernel_rfl) ?hqr2_0 ?hyr2_0 (by assumption) ?restr2_0
          case hir2_0 => simp only [List.getElem?_toArray, List.getElem?_cons_succ, List.getElem?_cons_zero]; rfl
          case hqr2_0 => exact fun _ _ _ h => h
          case hyr2_0 => (refine Or.inl ⟨by rfl, ?_⟩; intro w hSw; (try dsimp only at hSw); go_simp; all_goals with_reducible rfl)
          try simp only [Act.put, List.setIfInBounds_toArray, List.set_cons_zero, List.set_cons_succ]
          refine wpAnyH_take (i := 1) (oi := ?oir2_1) (v := ?vr2_1) ?hir2_1 (by kernel_rfl) (by kernel_rfl) (by kernel_rfl) ?hqr2_1 ?hyr2_1 (by assumption) ?restr2_1
          case hir2_1 => simp only [List.getElem?_toArray, List.getElem?_cons_succ, List.getElem?_cons_zero]; rfl
          case hqr2_1 => exact fun _ _ _ h => h
          case hyr2_1 => (refine Or.inl ⟨by rfl, ?_⟩; intro w hSw; (try dsimp only at hSw); go_simp; all_goals with_reducible rfl)
          try simp only [Act.put, List.setIfInBounds_toArray, List.set_cons_zero, List.set_cons_succ]
          refine wpAnyH_take (i := 2) (oi := ?oir2_2) (v := ?vr2_2) ?hir2_2 (by kernel_rfl) (by kernel_rfl) (by kernel_rfl) ?hqr2_2 ?hyr2_2 (by assumption) ?restr2_2
          case hir2_2 => simp only [List.getElem?_toArray, List.getElem?_cons_succ, List.getElem?_cons_zero]; rfl
          case hqr2_2 => exact fun _ _ _ h => h
          case hyr2_2 => (refine Or.inl ⟨by rfl, ?_⟩; intro w hSw; (try dsimp only at hSw); go_simp; all_goals with_reducible rfl)
          try simp only [Act.put, List.setIfInBounds_toArray, List.set_cons_zero, List.set_cons_succ]
          refine wpAnyH_take (i := 3) (oi := ?oir2_3) (v := ?vr2_3) ?hir2_3 (by kernel_rfl) (by kernel_rfl) (by kernel_rfl) ?hqr2_3 ?hyr2_3 (by assumption) ?restr2_3
          case hir2_3 => simp only [List.getElem?_toArray, List.getElem?_cons_succ, List.getElem?_cons_zero]; rfl
          case hqr2_3 => exact fun _ _ _ h => h
          case hyr2_3 => (refine Or.inl ⟨by rfl, ?_⟩; intro w hSw; (try dsimp only at hSw); go_simp; all_goals with_reducible rfl)
          try simp only [Act.put, List.setIfInBounds_toArray, List.set_cons_zero, List.set_cons_succ]
          refine wpAnyH_take (i := 4) (oi := ?oir2_4) (v := ?vr2_4) ?hir2_4 (by kernel_rfl) (by kernel_rfl) (by kernel_rfl) ?hqr2_4 ?hyr2_4 (by assumption) ?restr2_4
          case hir2_4 => simp only [List.getElem?_toArray, List.getElem?_cons_succ, List.getElem?_cons_zero]; rfl
          case hqr2_4 => exact fun _ _ _ h => h
          case hyr2_4 => (refine Or.inl ⟨by rfl, ?_⟩; intro w hSw; (try dsimp only at hSw); go_simp; all_goals with_reducible rfl)
          try simp only [Act.put, List.setIfInBounds_toArray, List.set_cons_zero, List.set_cons_succ]
          refine wpAnyH_take (i := 5) (oi := ?oir2_5) (v := ?vr2_5) ?hir2_5 (by kernel_rfl) (by kernel_rfl) (by kernel_rfl) ?hqr2_5 ?hyr2_5 (by assumption) ?restr2_5
          case hir2_5 => simp only [List.getElem?_toArray, List.getElem?_cons_succ, List.getElem?_cons_zero]; rfl
          case hqr2_5 => exact fun _ _ _ h => h
          case hyr2_5 => (refine Or.inl ⟨by rfl, ?_⟩; intro w hSw; (try dsimp only at hSw); go_simp; all_goals with_reducible rfl)
          try simp only [Act.put, List.setIfInBounds_toArray, List.set_cons_zero, List.set_cons_succ]
          refine wpAnyH_take (i := 6) (oi := ?oir2_6) (v := ?vr2_6) ?hir2_6 (by kernel_rfl) (by kernel_rfl) (by kernel_rfl) ?hqr2_6 ?hyr2_6 (by assumption) ?restr2_6
          case hir2_6 => simp only [List.getElem?_toArray, List.getElem?_cons_succ, List.getElem?_cons_zero]; rfl
          case hqr2_6 => exact fun _ _ _ h => h
          case hyr2_6 => (refine Or.inl ⟨by rfl, ?_⟩; intro w hSw; (try dsimp only at hSw); go_simp; all_goals with_reducible rfl)
          try simp only [Act.put, List.setIfInBounds_toArray, List.set_cons_zero, List.set_cons_succ]
          refine wpAnyH_take (i := 7) (oi := ?oir2_7) (v := ?vr2_7) ?hir2_7 (by kernel_rfl) (by kernel_rfl) (by kernel_rfl) ?hqr2_7 ?hyr2_7 (by assumption) ?restr2_7
          case hir2_7 => simp only [List.getElem?_toArray, List.getElem?_cons_succ, List.getElem?_cons_zero]; rfl
          case hqr2_7 => exact fun _ _ _ h => h
          case hyr2_7 => (refine Or.inl ⟨by rfl, ?_⟩; intro w hSw; (try dsimp only at hSw); go_simp; all_goals with_reducible rfl)
          try simp only [Act.put, List.setIfInBounds_toArray, List.set_cons_zero, List.set_cons_succ]
          refine wpAnyH_take (i := 8) (oi := ?oir2_8) (v := ?vr2_8) ?hir2_8 (by kernel_rfl) (by kernel_rfl) (by kernel_rfl) ?hqr2_8 ?hyr2_8 (by assumption) ?restr2_8
          case hir2_8 => simp only [List.getElem?_toArray, List.getElem?_cons_succ, List.getElem?_cons_zero]; rfl
          case hqr2_8 => exact fun _ _ _ h => h
          case hyr2_8 => (refine Or.inl ⟨by rfl, ?_⟩; intro w hSw; (try dsimp only at hSw); go_simp; all_goals with_reducible rfl)
          try simp only [Act.put, List.setIfInBounds_toArray, List.set_cons_zero, List.set_cons_succ]
          refine wpAnyH_take (i := 9) (oi := ?oir2_9) (v := ?vr2_9) ?hir2_9 (by kernel_rfl) (by kernel_rfl) (by kernel_rfl) ?hqr2_9 ?hyr2_9 (by assumption) ?restr2_9
          case hir2_9 => simp only [List.getElem?_toArray, List.getElem?_cons_succ, List.getElem?_cons_zero]; rfl
          case hqr2_9 => exact fun _ _ _ h => h
          case hyr2_9 => (refine Or.inl ⟨by rfl, ?_⟩; intro w hSw; (try dsimp only at hSw); go_simp; all_goals with_reducible rfl)
          try simp only [Act.put, List.setIfInBounds_toArray, List.set_cons_zero, List.set_cons_succ]
          refine wpAnyH_take (i := 10) (oi := ?oir2_10) (v := ?vr2_10) ?hir2_10 (by kernel_rfl) (by kernel_rfl) (by kernel_rfl) ?hqr2_10 ?hyr2_10 (by assumption) ?restr2_10
          case hir2_10 => simp only [List.getElem?_toArray, List.getElem?_cons_succ, List.getElem?_cons_zero]; rfl
          case hqr2_10 => exact fun _ _ _ h => h
          case hyr2_10 => (refine Or.inl ⟨by rfl, ?_⟩; intro w hSw; (try dsimp only at hSw); go_simp; all_goals with_reducible rfl)
          try simp only [Act.put, List.setIfInBounds_toArray, List.set_cons_zero, List.set_cons_succ]
          refine wpAnyH_take (i := 11) (oi := ?oir2_11) (v := ?vr2_11) ?hir2_11 (by kernel_rfl) (by kernel_rfl) (by kernel_rfl) ?hqr2_11 ?hyr2_11 (by assumption) ?restr2_11
          case hir2_11 => simp only [List.getElem?_toArray, List.getElem?_cons_succ, List.getElem?_cons_zero]; rfl
          case hqr2_11 => exact fun _ _ _ h => h
          case hyr2_11 => (refine Or.inl ⟨by rfl, ?_⟩; intro w hSw; (try dsimp only at hSw); go_simp; all_goals with_reducible rfl)
          try simp only [Act.put, List.setIfInBounds_toArray, List.set_cons_zero, List.set_cons_succ]
          refine wpAnyH_take (i := 12) (oi := ?oir2_12) (v := ?vr2_12) ?hir2_12 (by kernel_rfl) (by kernel_rfl) (by kernel_rfl) ?hqr2_12 ?hyr2_12 (by assumption) ?restr2_12
          case hir2_12 => simp only [List.getElem?_toArray, List.getElem?_cons_succ, List.getElem?_cons_zero]; rfl
          case hqr2_12 => exact fun _ _ _ h => h
          case hyr2_12 => (refine Or.inl ⟨by rfl, ?_⟩; intro w hSw; (try dsimp only at hSw); go_simp; all_goals with_reducible rfl)
          try simp only [Act.put, List.setIfInBounds_toArray, List.set_cons_zero, List.set_cons_succ]
          refine wpAnyH_take (i := 13) (oi := ?oir2_13) (v := ?vr2_13) ?hir2_13 (by kernel_rfl) (by kernel_rfl) (by kernel_rfl) ?hqr2_13 ?hyr2_13 (by assumption) ?restr2_13
          case hir2_13 => simp only [List.getElem?_toArray, List.getElem?_cons_succ, List.getElem?_cons_zero]; rfl
          case hqr2_13 => exact fun _ _ _ h => h
          case hyr2_13 => (refine Or.inl ⟨by rfl, ?_⟩; intro w hSw; (try dsimp only at hSw); go_simp; all_goals with_reducible rfl)
          try simp only [Act.put, List.setIfInBounds_toArray, List.set_cons_zero, List.set_cons_succ]
          refine wpAnyH_take (i := 14) (oi := ?oir2_14) (v := ?vr2_14) ?hir2_14 (by kernel_rfl) (by kernel_rfl) (by kernel_rfl) ?hqr2_14 ?hyr2_14 (by assumption) ?restr2_14
          case hir2_14 => simp only [List.getElem?_toArray, List.getElem?_cons_succ, List.getElem?_cons_zero]; rfl
          case hqr2_14 => exact fun _ _ _ h => h
          case hyr2_14 => (refine Or.inl ⟨by rfl, ?_⟩; intro w hSw; (try dsimp only at hSw); go_simp; all_goals with_reducible rfl)
          try simp only [Act.put, List.setIfInBounds_toArray, List.set_cons_zero, List.set_cons_succ]
          refine wpAnyH_take (i := 15) (oi := ?oir2_15) (v := ?vr2_15) ?hir2_15 (by kernel_rfl) (by kernel_rfl) (by kernel_rfl) ?hqr2_15 ?hyr2_15 (by assumption) ?restr2_15
          case hir2_15 => simp only [List.getElem?_toArray, List.getElem?_cons_succ, List.getElem?_cons_zero]; rfl
          case hqr2_15 => exact fun _ _ _ h => h
          case hyr2_15 => (refine Or.inl ⟨by rfl, ?_⟩; intro w hSw; (try dsimp only at hSw); go_simp; all_goals with_reducible rfl)
          try simp only [Act.put, List.setIfInBounds_toArray, List.set_cons_zero, List.set_cons_succ]
          refine wpAnyH_take (i := 16) (oi := ?oir2_16) (v := ?vr2_16) ?hir2_16 (by kernel_rfl) (by kernel_rfl) (by kernel_rfl) ?hqr2_16 ?hyr2_16 (by assumption) ?restr2_16
          case hir2_16 => simp only [List.getElem?_toArray, List.getElem?_cons_succ, List.getElem?_cons_zero]; rfl
          case hqr2_16 => exact fun _ _ _ h => h
          case hyr2_16 => (refine Or.inl ⟨by rfl, ?_⟩; intro w hSw; (try dsimp only at hSw); go_simp; all_goals with_reducible rfl)
          try simp only [Act.put, List.setIfInBounds_toArray, List.set_cons_zero, List.set_cons_succ]
          refine wpAnyH_take (i := 17) (oi := ?oir2_17) (v := ?vr2_17) ?hir2_17 (by kernel_rfl) (by kernel_rfl) (by kernel_rfl) ?hqr2_17 ?hyr2_17 (by assumption) ?restr2_17
          case hir2_17 => simp only [List.getElem?_toArray, List.getElem?_cons_succ, List.getElem?_cons_zero]; rfl
          case hqr2_17 => exact fun _ _ _ h => h
          case hyr2_17 => (refine Or.inl ⟨by rfl, ?_⟩; intro w hSw; (try dsimp only at hSw); go_simp; all_goals with_reducible rfl)
          try simp only [Act.put, List.setIfInBounds_toArray, List.set_cons_zero, List.set_cons_succ]
          refine wpAnyH_take (i := 18) (oi := ?oir2_18) (v := undef) ?hir2_18 (by kernel_rfl) (by kernel_rfl) (by kernel_rfl) ?hqr2_18 ?hyr2_18 (by assumption) ?restr2_18
          case hir2_18 => simp only [List.getElem?_toArray, List.getElem?_cons_succ, List.getElem?_cons_zero]; rfl
          case hqr2_18 => exact fun _ _ _ h => h
          case hyr2_18 => exact Or.inr ⟨by rfl, rfl⟩
          try simp only [Act.put, List.setIfInBounds_toArray, List.set_cons_zero, List.set_cons_succ]
          refine wpAnyH_take (i := 19) (oi := ?oir2_19) (v := undef) ?hir2_19 (by kernel_rfl) (by kernel_rfl) (by kernel_rfl) ?hqr2_19 ?hyr2_19 (by assumption) ?restr2_19
          case hir2_19 => simp only [List.getElem?_toArray, List.getElem?_cons_succ, List.getElem?_cons_zero]; rfl
          case hqr2_19 => exact fun _ _ _ h => h
          case hyr2_19 => exact Or.inr ⟨by rfl, rfl⟩
          try simp only [Act.put, List.setIfInBounds_toArray, List.set_cons_zero, List.set_cons_succ]
          refine wpAnyH_take (i := 20) (oi := ?oir2_20) (v := undef) ?hir2_20 (by kernel_rfl) (by kernel_rfl) (by kernel_rfl) ?hqr2_20 ?hyr2_20 (by assumption) ?restr2_20
          case hir2_20 => simp only [List.getElem?_toArray, List.getElem?_cons_succ, List.getElem?_cons_zero]; rfl
          case hqr2_20 => exact fun _ _ _ h => h
          case hyr2_20 => exact Or.inr ⟨by rfl, rfl⟩
          try simp only [Act.put, List.setIfInBounds_toArray, List.set_cons_zero, List.set_cons_succ]
          refine wpAnyH_take (i := 21) (oi := ?oir2_21) (v := undef) ?hir2_21 (by kernel_rfl) (by kernel_rfl) (by kernel_rfl) ?hqr2_21 ?hyr2_21 (by assumption) ?restr2_21
          case hir2_21 => simp only [List.getElem?_toArray, List.getElem?_cons_succ, List.getElem?_cons_zero]; rfl
          case hqr2_21 => exact fun _ _ _ h => h
          case hyr2_21 => exact Or.inr ⟨by rfl, rfl⟩
          try simp only [Act.put, List.setIfInBounds_toArray, List.set_cons_zero, List.set_cons_succ]
          refine wpAnyH_take (i := 22) (oi := ?oir2_22) (v := undef) ?hir2_22 (by kernel_rfl) (by kernel_rfl) (by kernel_rfl) ?hqr2_22 ?hyr2_22 (by assumption) ?restr2_22
          case hir2_22 => simp only [List.getElem?_toArray, List.getElem?_cons_succ, List.getElem?_cons_zero]; rfl
          case hqr2_22 => exact fun _ _ _ h => h
          case hyr2_22 => exact Or.inr ⟨by rfl, rfl⟩
          try simp only [Act.put, List.setIfInBounds_toArray, List.set_cons_zero, List.set_cons_succ]
          refine wpAnyH_take (i := 23) (oi := ?oir2_23) (v := undef) ?hir2_23 (by kernel_rfl) (by kernel_rfl) (by kernel_rfl) ?hqr2_23 ?hyr2_23 (by assumption) ?restr2_23
          case hir2_23 => simp only [List.getElem?_toArray, List.getElem?_cons_succ, List.getElem?_cons_zero]; rfl
          case hqr2_23 => exact fun _ _ _ h => h
          case hyr2_23 => exact Or.inr ⟨by rfl, rfl⟩
          try simp only [Act.put, List.setIfInBounds_toArray, List.set_cons_zero, List.set_cons_succ]
          refine wpAnyH_take (i := 24) (oi := ?oir2_24) (v := undef) ?hir2_24 (by kernel_rfl) (by kernel_rfl) (by kernel_rfl) ?hqr2_24 ?hyr2_24 (by assumption) ?restr2_24
          case hir2_24 => simp only [List.getElem?_toArray, List.getElem?_cons_succ, List.getElem?_cons_zero]; rfl
          case hqr2_24 => exact fun _ _ _ h => h
          case hyr2_24 => exact Or.inr ⟨by rfl, rfl⟩
          try simp only [Act.put, List.setIfInBounds_toArray, List.set_cons_zero, List.set_cons_succ]
          refine wpAnyH_take (i := 25) (oi := ?oir2_25) (v := undef) ?hir2_25 (by kernel_rfl) (by kernel_rfl) (by kernel_rfl) ?hqr2_25 ?hyr2_25 (by assumption) ?restr2_25
          case hir2_25 => simp only [List.getElem?_toArray, List.getElem?_cons_succ, List.getElem?_cons_zero]; rfl
          case hqr2_25 => exact fun _ _ _ h => h
          case hyr2_25 => exact Or.inr ⟨by rfl, rfl⟩
          try simp only [Act.put, List.setIfInBounds_toArray, List.set_cons_zero, List.set_cons_succ]
          refine wpAnyH_take (i := 26) (oi := ?oir2_26) (v := undef) ?hir2_26 (by kernel_rfl) (by kernel_rfl) (by kernel_rfl) ?hqr2_26 ?hyr2_26 (by assumption) ?restr2_26
          case hir2_26 => simp only [List.getElem?_toArray, List.getElem?_cons_succ, List.getElem?_cons_zero]; rfl
          case hqr2_26 => exact fun _ _ _ h => h
          case hyr2_26 => exact Or.inr ⟨by rfl, rfl⟩
          try simp only [Act.put, List.setIfInBounds_toArray, List.set_cons_zero, List.set_cons_succ]
          refine wpAnyH_take (i := 27) (oi := ?oir2_27) (v := undef) ?hir2_27 (by kernel_rfl) (by kernel_rfl) (by kernel_rfl) ?hqr2_27 ?hyr2_27 (by assumption) ?restr2_27
          case hir2_27 => simp only [List.getElem?_toArray, List.getElem?_cons_succ, List.getElem?_cons_zero]; rfl
          case hqr2_27 => exact fun _ _ _ h => h
          case hyr2_27 => exact Or.inr ⟨by rfl, rfl⟩
          try simp only [Act.put, List.setIfInBounds_toArray, List.set_cons_zero, List.set_cons_succ]
          refine wpAnyH_take (i := 28) (oi := ?oir2_28) (v := undef) ?hir2_28 (by kernel_rfl) (by kernel_rfl) (by kernel_rfl) ?hqr2_28 ?hyr2_28 (by assumption) ?restr2_28
          case hir2_28 => simp only [List.getElem?_toArray, List.getElem?_cons_succ, List.getElem?_cons_zero]; rfl
          case hqr2_28 => exact fun _ _ _ h => h
          case hyr2_28 => exact Or.inr ⟨by rfl, rfl⟩
          try simp only [Act.put, List.setIfInBounds_toArray, List.set_cons_zero, List.set_cons_succ]
          refine wpAnyH_take (i := 29) (oi := ?oir2_29) (v := undef) ?hir2_29 (by kernel_rfl) (by kernel_rfl) (by kernel_rfl) ?hqr2_29 ?hyr2_29 (by assumption) ?restr2_29
          case hir2_29 => simp only [List.getElem?_toArray, List.getElem?_cons_succ, List.getElem?_cons_zero]; rfl
          case hqr2_29 => exact fun _ _ _ h => h
          case hyr2_29 => exact Or.inr ⟨by rfl, rfl⟩
          try simp only [Act.put, List.setIfInBounds_toArray, List.set_cons_zero, List.set_cons_succ]
          refine wpAnyH_take (i := 30) (oi := ?oir2_30) (v := ?vr2_30) ?hir2_30 (by kernel_rfl) (by kernel_rfl) (by kernel_rfl) ?hqr2_30 ?hyr2_30 (by assumption) ?restr2_30
          case hir2_30 => simp only [List.getElem?_toArray, List.getElem?_cons_succ, List.getElem?_cons_zero]; rfl
          case hqr2_30 => exact fun _ _ _ h => h
          case hyr2_30 => (refine Or.inl ⟨by rfl, ?_⟩; intro w hSw; (try dsimp only at hSw); go_simp; all_goals with_reducible rfl)
          try simp only [Act.put, List.setIfInBounds_toArray, List.set_cons_zero, List.set_cons_succ]
          refine wpAnyH_done (by kernel_rfl) ?_ _
          clear hHeld kd ky
          have HDB := Lib.hid (show decB p xs ds = false from decB_no (i := i) (by rw [HD.out]; exact hlt) (fun h => by have := h.1.2.1; rw [HBX.out, HX.out] at this; omega))
          have HRR := Lib.hid (show r = (zeroR, 2) by rw [HR2.out, HDB.out]; rfl)
          have R := h_o_301
          go_wp2_with first | refine wpList_store_whole rfl 51 _ _ rfl atRea _ _ _ R.row rfl rfl rfl rfl (rea_one 0 0 none none 0 0 0 0) ?_
          refine bodyPost_ret (results_cell_two rfl _ _ _ _ _ _ _ rfl (setRow_heap _ _ _ _ _ _ R.row) Try.underlying51 rfl (by kernel_rfl) _ rfl) rfl ?_
          exact RetR.nils HRR.out (HO0.out.trans ((R.put _).below.mono HO0.out.size))
        have d1 : decide (bx ≥ ((n_x : Nat) : Int)) = false := decide_eq_false (by omega)
        have d2 : decide (((n_x : Nat) : Int) ≤ bx) = false := decide_eq_false (by omega)
        obtain ⟨b, rfl⟩ : ∃ b : Nat, bx = (b : Int) := ⟨bx.toNat, by omega⟩
        have hbn : b < n_x := by omega
        have d3 : decide (n_x ≤ b) = false := decide_eq_false (by omega)
        have d4 : ¬ n_x ≤ b := by omega
        obtain ⟨b8, o8, rfl, kx, hxb⟩ := h_x_300.cell b hbn
        obtain ⟨x, hx⟩ : ∃ x, nth xs b = x := ⟨_, rfl⟩
        rw [hx] at kx hxb
        replace hxb : x < 256 := hxb
        have HXB := Lib.hid hx
        clear hx
        have kp0 := h_p_300.cell 0 _ rfl
        have kp1 := h_p_300.cell 1 _ rfl
        have kp2 := h_p_300.cell 2 _ rfl
        obtain ⟨db, hdb⟩ : ∃ db, doubtB p x = db := ⟨_, rfl⟩
        have HDB0 := Lib.hid hdb
        clear hdb
        go_upto_region 11 with fail
        have hb := (Below.refl wr.heap.size wr).drew
        replace kd := cell_below hb kd
        replace ky := cell_below hb ky
        replace kx := cell_below hb kx
        replace kp0 := cell_below hb kp0
        replace kp1 := cell_below hb kp1
        replace kp2 := cell_below hb kp2
        have B301 := B300.trans (hb.mono B300.size)
        have h_p_301 := h_p_300.later hb
        have h_y_301 := h_y_300.later hb
        have h_o_301 := h_o_300.later hb
        have h_d_301 := h_d_300.below hb
        have h_x_301 := h_x_300.below hb
        clear hb B300 h_p_300 h_y_300 h_o_300 h_d_300 h_x_300
        refine wp_region_held_drew (S := (fun w' => w'.cell? ⟨bd, od + i * 2, none⟩ = some (.int .i64 ((b : Nat) : Int)) ∧ w'.cell? ⟨w.heap.size + 1 + 1, 0, none⟩ = some (.slice (some ⟨b8, o8, none⟩) n_x c_x) ∧ w'.cell? ⟨b8, o8 + b, none⟩ = some (.int .u8 ((x : Nat) : Int)) ∧ w'.cell? ⟨w.heap.size + 1, 0, none⟩ = some (.int .u8 ((p.low : Nat) : Int)) ∧ w'.cell? ⟨w.heap.size + 1, 1, none⟩ = some (.int .u8 ((p.high : Nat) : Int)) ∧ w'.cell? ⟨w.heap.size + 1, 2, none⟩ = some (.int .i64 p.skips) ∧ True)) (by kernel_rfl) ?_ (fun hHeld => ?_)
        · exact ⟨kd, ky, kx, kp0, kp1, kp2, trivial⟩
        generalize wr.drew = w301 at *
        refine wpAnyH_take (i := 0) (oi := ?oir3_0) (v := ?vr3_0) ?hir3_0 (by kernel_rfl) (by kernel_rfl) (by kernel_rfl) ?hqr3_0 ?hyr3_0 (by assumption) ?restr3_0
        case hir3_0 => simp only [List.getElem?_toArray, List.getElem?_cons_succ, List.getElem?_cons_zero]; rfl
        case hqr3_0 => exact fun _ _ _ h => h
        case hyr3_0 => (refine Or.inl ⟨by rfl, ?_⟩; intro w hSw; (try dsimp only at hSw); go_simp; all_goals with_reducible rfl)
        try simp only [Act.put, List.setIfInBounds_toArray, List.set_cons_zero, List.set_cons_succ]
        refine wpAnyH_take (i := 1) (oi := ?oir3_1) (v := ?vr3_1) ?hir3_1 (by kernel_rfl) (by kernel_rfl) (by kernel_rfl) ?hqr3_1 ?hyr3_1 (by assumption) ?restr3_1
        case hir3_1 => simp only [List.getElem?_toArray, List.getElem?_cons_succ, List.getElem?_cons_zero]; rfl
        case hqr3_1 => exact fun _ _ _ h => h
        case hyr3_1 => (refine Or.inl ⟨by rfl, ?_⟩; intro w hSw; (try dsimp only at hSw); go_simp; all_goals with_reducible rfl)
        try simp only [Act.put, List.setIfInBounds_toArray, List.set_cons_zero, List.set_cons_succ]
        refine wpAnyH_take (i := 2) (oi := ?oir3_2) (v := ?vr3_2) ?hir3_2 (by kernel_rfl) (by kernel_rfl) (by kernel_rfl) ?hqr3_2 ?hyr3_2 (by assumption) ?restr3_2
        case hir3_2 => simp only [List.getElem?_toArray, List.getElem?_cons_succ, List.getElem?_cons_zero]; rfl
        case hqr3_2 => exact fun _ _ _ h => h
        case hyr3_2 => (refine Or.inl ⟨by rfl, ?_⟩; intro w hSw; (try dsimp only at hSw); go_simp; all_goals with_reducible rfl)
        try simp only [Act.put, List.setIfInBounds_toArray, List.set_cons_zero, List.set_cons_succ]
        refine wpAnyH_take (i := 3) (oi := ?oir3_3) (v := ?vr3_3) ?hir3_3 (by kernel_rfl) (by kernel_rfl) (by kernel_rfl) ?hqr3_3 ?hyr3_3 (by assumption) ?restr3_3
        case hir3_3 => simp only [List.getElem?_toArray, List.getElem?_cons_succ, List.getElem?_cons_zero]; rfl
        case hqr3_3 => exact fun _ _ _ h => h
        case hyr3_3 => (refine Or.inl ⟨by rfl, ?_⟩; intro w hSw; (try dsimp only at hSw); go_simp; all_goals with_reducible rfl)
        try simp only [Act.put, List.setIfInBounds_toArray, List.set_cons_zero, List.set_cons_succ]
        refine wpAnyH_take (i := 4) (oi := ?oir3_4) (v := ?vr3_4) ?hir3_4 (by kernel_rfl) (by kernel_rfl) (by kernel_rfl) ?hqr3_4 ?hyr3_4 (by assumption) ?restr3_4
        case hir3_4 => simp only [List.getElem?_toArray, List.getElem?_cons_succ, List.getElem?_cons_zero]; rfl
        case hqr3_4 => exact fun _ _ _ h => h
        case hyr3_4 => (refine Or.inl ⟨by rfl, ?_⟩; intro w hSw; (try dsimp only at hSw); go_simp; all_goals with_reducible rfl)
        try simp only [Act.put, List.setIfInBounds_toArray, List.set_cons_zero, List.set_cons_succ]
        refine wpAnyH_take (i := 5) (oi := ?oir3_5) (v := ?vr3_5) ?hir3_5 (by kernel_rfl) (by kernel_rfl) (by kernel_rfl) ?hqr3_5 ?hyr3_5 (by assumption) ?restr3_5
        case hir3_5 => simp only [List.getElem?_toArray, List.getElem?_cons_succ, List.getElem?_cons_zero]; rfl
        case hqr3_5 => exact fun _ _ _ h => h
        case hyr3_5 => (refine Or.inl ⟨by rfl, ?_⟩; intro w hSw; (try dsimp only at hSw); go_simp; all_goals with_reducible rfl)
        try simp only [Act.put, List.setIfInBounds_toArray, List.set_cons_zero, List.set_cons_succ]
        refine wpAnyH_take (i := 6) (oi := ?oir3_6) (v := ?vr3_6) ?hir3_6 (by kernel_rfl) (by kernel_rfl) (by kernel_rfl) ?hqr3_6 ?hyr3_6 (by assumption) ?restr3_6
        case hir3_6 => simp only [List.getElem?_toArray, List.getElem?_cons_succ, List.getElem?_cons_zero]; rfl
        case hqr3_6 => exact fun _ _ _ h => h
        case hyr3_6 => (refine Or.inl ⟨by rfl, ?_⟩; intro w hSw; (try dsimp only at hSw); go_simp; all_goals with_reducible rfl)
        try simp only [Act.put, List.setIfInBounds_toArray, List.set_cons_zero, List.set_cons_succ]
        refine wpAnyH_take (i := 7) (oi := ?oir3_7) (v := ?vr3_7) ?hir3_7 (by kernel_rfl) (by kernel_rfl) (by kernel_rfl) ?hqr3_7 ?hyr3_7 (by assumption) ?restr3_7
        case hir3_7 => simp only [List.getElem?_toArray, List.getElem?_cons_succ, List.getElem?_cons_zero]; rfl
        case hqr3_7 => exact fun _ _ _ h => h
        case hyr3_7 => (refine Or.inl ⟨by rfl, ?_⟩; intro w hSw; (try dsimp only at hSw); go_simp; all_goals with_reducible rfl)
        try simp only [Act.put, List.setIfInBounds_toArray, List.set_cons_zero, List.set_cons_succ]
        refine wpAnyH_take (i := 8) (oi := ?oir3_8) (v := ?vr3_8) ?hir3_8 (by kernel_rfl) (by kernel_rfl) (by kernel_rfl) ?hqr3_8 ?hyr3_8 (by assumption) ?restr3_8
        case hir3_8 => simp only [List.getElem?_toArray, List.getElem?_cons_succ, List.getElem?_cons_zero]; rfl
        case hqr3_8 => exact fun _ _ _ h => h
        case hyr3_8 => (refine Or.inl ⟨by rfl, ?_⟩; intro w hSw; (try dsimp only at hSw); go_simp; all_goals with_reducible rfl)
        try simp only [Act.put, List.setIfInBounds_toArray, List.set_cons_zero, List.set_cons_succ]
        refine wpAnyH_take (i := 9) (oi := ?oir3_9) (v := ?vr3_9) ?hir3_9 (by kernel_rfl) (by kernel_rfl) (by kernel_rfl) ?hqr3_9 ?hyr3_9 (by assumption) ?restr3_9
        case hir3_9 => simp only [List.getElem?_toArray, List.getElem?_cons_succ, List.getElem?_cons_zero]; rfl
        case hqr3_9 => exact fun _ _ _ h => h
        case hyr3_9 => (refine Or.inl ⟨by rfl, ?_⟩; intro w hSw; (try dsimp only at hSw); go_simp; all_goals with_reducible rfl)
        try simp only [Act.put, List.setIfInBounds_toArray, List.set_cons_zero, List.set_cons_succ]
        refine wpAnyH_take (i := 10) (oi := ?oir3_10) (v := ?vr3_10) ?hir3_10 (by kernel_rfl) (by kernel_rfl) (by kernel_rfl) ?hqr3_10 ?hyr3_10 (by assumption) ?restr3_10
        case hir3_10 => simp only [List.getElem?_toArray, List.getElem?_cons_succ, List.getElem?_cons_zero]; rfl
        case hqr3_10 => exact fun _ _ _ h => h
        case hyr3_10 => (refine Or.inl ⟨by rfl, ?_⟩; intro w hSw; (try dsimp only at hSw); go_simp; all_goals with_reducible rfl)
        try simp only [Act.put, List.setIfInBounds_toArray, List.set_cons_zero, List.set_cons_succ]
        refine wpAnyH_take (i := 11) (oi := ?oir3_11) (v := ?vr3_11) ?hir3_11 (by kernel_rfl) (by kernel_rfl) (by kernel_rfl) ?hqr3_11 ?hyr3_11 (by assumption) ?restr3_11
        case hir3_11 => simp only [List.getElem?_toArray, List.getElem?_cons_succ, List.getElem?_cons_zero]; rfl
        case hqr3_11 => exact fun _ _ _ h => h
        case hyr3_11 => (refine Or.inl ⟨by rfl, ?_⟩; intro w hSw; (try dsimp only at hSw); go_simp; all_goals with_reducible rfl)
        try simp only [Act.put, List.setIfInBounds_toArray, List.set_cons_zero, List.set_cons_succ]
        refine wpAnyH_take (i := 12) (oi := ?oir3_12) (v := ?vr3_12) ?hir3_12 (by kernel_rfl) (by kernel_rfl) (by kernel_rfl) ?hqr3_12 ?hyr3_12 (by assumption) ?restr3_12
        case hir3_12 => simp only [List.getElem?_toArray, List.getElem?_cons_succ, List.getElem?_cons_zero]; rfl
        case hqr3_12 => exact fun _ _ _ h => h
        case hyr3_12 => (refine Or.inl ⟨by rfl, ?_⟩; intro w hSw; (try dsimp only at hSw); go_simp; all_goals with_reducible rfl)
        try simp only [Act.put, List.setIfInBounds_toArray, List.set_cons_zero, List.set_cons_succ]
        refine wpAnyH_take (i := 13) (oi := ?oir3_13) (v := ?vr3_13) ?hir3_13 (by kernel_rfl) (by kernel_rfl) (by kernel_rfl) ?hqr3_13 ?hyr3_13 (by assumption) ?restr3_13
        case hir3_13 => simp only [List.getElem?_toArray, List.getElem?_cons_succ, List.getElem?_cons_zero]; rfl
        case hqr3_13 => exact fun _ _ _ h => h
        case hyr3_13 => (refine Or.inl ⟨by rfl, ?_⟩; intro w hSw; (try dsimp only at hSw); go_simp; all_goals with_reducible rfl)
        try simp only [Act.put, List.setIfInBounds_toArray, List.set_cons_zero, List.set_cons_succ]
        refine wpAnyH_take (i := 14) (oi := ?oir3_14) (v := ?vr3_14) ?hir3_14 (by kernel_rfl) (by kernel_rfl) (by kernel_rfl) ?hqr3_14 ?hyr3_14 (by assumption) ?restr3_14
        case hir3_14 => simp only [List.getElem?_toArray, List.getElem?_cons_succ, List.getElem?_cons_zero]; rfl
        case hqr3_14 => exact fun _ _ _ h => h
        case hyr3_14 => (refine Or.inl ⟨by rfl, ?_⟩; intro w hSw; (try dsimp only at hSw); go_simp; all_goals with_reducible rfl)
        try simp only [Act.put, List.setIfInBounds_toArray, List.set_cons_zero, List.set_cons_succ]
        refine wpAnyH_take (i := 15) (oi := ?oir3_15) (v := ?vr3_15) ?hir3_15 (by kernel_rfl) (by kernel_rfl) (by kernel_rfl) ?hqr3_15 ?hyr3_15 (by assumption) ?restr3_15
        case hir3_15 => simp only [List.getElem?_toArray, List.getElem?_cons_succ, List.getElem?_cons_zero]; rfl
        case hqr3_15 => exact fun _ _ _ h => h
        case hyr3_15 => (refine Or.inl ⟨by rfl, ?_⟩; intro w hSw; (try dsimp only at hSw); go_simp; all_goals with_reducible rfl)
        try simp only [Act.put, List.setIfInBounds_toArray, List.set_cons_zero, List.set_cons_succ]
        refine wpAnyH_take (i := 16) (oi := ?oir3_16) (v := ?vr3_16) ?hir3_16 (by kernel_rfl) (by kernel_rfl) (by kernel_rfl) ?hqr3_16 ?hyr3_16 (by assumption) ?restr3_16
        case hir3_16 => simp only [List.getElem?_toArray, List.getElem?_cons_succ, List.getElem?_cons_zero]; rfl
        case hqr3_16 => exact fun _ _ _ h => h
        case hyr3_16 => (refine Or.inl ⟨by rfl, ?_⟩; intro w hSw; (try dsimp only at hSw); go_simp; all_goals with_reducible rfl)
        try simp only [Act.put, List.setIfInBounds_toArray, List.set_cons_zero, List.set_cons_succ]
        refine wpAnyH_take (i := 17) (oi := ?oir3_17) (v := ?vr3_17) ?hir3_17 (by kernel_rfl) (by kernel_rfl) (by kernel_rfl) ?hqr3_17 ?hyr3_17 (by assumption) ?restr3_17
        case hir3_17 => simp only [List.getElem?_toArray, List.getElem?_cons_succ, List.getElem?_cons_zero]; rfl
        case hqr3_17 => exact fun _ _ _ h => h
        case hyr3_17 => (refine Or.inl ⟨by rfl, ?_⟩; intro w hSw; (try dsimp only at hSw); go_simp; all_goals with_reducible rfl)
        try simp only [Act.put, List.setIfInBounds_toArray, List.set_cons_zero, List.set_cons_succ]
        refine wpAnyH_take (i := 18) (oi := ?oir3_18) (v := ?vr3_18) ?hir3_18 (by kernel_rfl) (by kernel_rfl) (by kernel_rfl) ?hqr3_18 ?hyr3_18 (by assumption) ?restr3_18
        case hir3_18 => simp only [List.getElem?_toArray, List.getElem?_cons_succ, List.getElem?_cons_zero]; rfl
        case hqr3_18 => exact fun _ _ _ h => h
        case hyr3_18 => (refine Or.inl ⟨by rfl, ?_⟩; intro w hSw; (try dsimp only at hSw); go_simp; all_goals with_reducible rfl)
        try simp only [Act.put, List.setIfInBounds_toArray, List.set_cons_zero, List.set_cons_succ]
        refine wpAnyH_take (i := 19) (oi := ?oir3_19) (v := ?vr3_19) ?hir3_19 (by kernel_rfl) (by kernel_rfl) (by kernel_rfl) ?hqr3_19 ?hyr3_19 (by assumption) ?restr3_19
        case hir3_19 => simp only [List.getElem?_toArray, List.getElem?_cons_succ, List.getElem?_cons_zero]; rfl
        case hqr3_19 => exact fun _ _ _ h => h
        case hyr3_19 => (refine Or.inl ⟨by rfl, ?_⟩; intro w hSw; (try dsimp only at hSw); go_simp; all_goals with_reducible rfl)
        try simp only [Act.put, List.setIfInBounds_toArray, List.set_cons_zero, List.set_cons_succ]
        refine wpAnyH_take (i := 20) (oi := ?oir3_20) (v := ?vr3_20) ?hir3_20 (by kernel_rfl) (by kernel_rfl) (by kernel_rfl) ?hqr3_20 ?hyr3_20 (by assumption) ?restr3_20
        case hir3_20 => simp only [List.getElem?_toArray, List.getElem?_cons_succ, List.getElem?_cons_zero]; rfl
        case hqr3_20 => exact fun _ _ _ h => h
        case hyr3_20 => (refine Or.inl ⟨by rfl, ?_⟩; intro w hSw; (try dsimp only at hSw); go_simp; all_goals with_reducible rfl)
        try simp only [Act.put, List.setIfInBounds_toArray, List.set_cons_zero, List.set_cons_succ]
        refine wpAnyH_take (i := 21) (oi := ?oir3_21) (v := ?vr3_21) ?hir3_21 (by kernel_rfl) (by kernel_rfl) (by kernel_rfl) ?hqr3_21 ?hyr3_21 (by assumption) ?restr3_21
        case hir3_21 => simp only [List.getElem?_toArray, List.getElem?_cons_succ, List.getElem?_cons_zero]; rfl
        case hqr3_21 => exact fun _ _ _ h => h
        case hyr3_21 => (refine Or.inl ⟨by rfl, ?_⟩; intro w hSw; (try dsimp only at hSw); go_simp; all_goals with_reducible rfl)
        try simp only [Act.put, List.setIfInBounds_toArray, List.set_cons_zero, List.set_cons_succ]
        refine wpAnyH_take (i := 22) (oi := ?oir3_22) (v := ?vr3_22) ?hir3_22 (by kernel_rfl) (by kernel_rfl) (by kernel_rfl) ?hqr3_22 ?hyr3_22 (by assumption) ?restr3_22
        case hir3_22 => simp only [List.getElem?_toArray, List.getElem?_cons_succ, List.getElem?_cons_zero]; rfl
        case hqr3_22 => exact fun _ _ _ h => h
        case hyr3_22 => (refine Or.inl ⟨by rfl, ?_⟩; intro w hSw; (try dsimp only at hSw); go_simp; all_goals with_reducible rfl)
        try simp only [Act.put, List.setIfInBounds_toArray, List.set_cons_zero, List.set_cons_succ]
        refine wpAnyH_take (i := 23) (oi := ?oir3_23) (v := ?vr3_23) ?hir3_23 (by kernel_rfl) (by kernel_rfl) (by kernel_rfl) ?hqr3_23 ?hyr3_23 (by assumption) ?restr3_23
        case hir3_23 => simp only [List.getElem?_toArray, List.getElem?_cons_succ, List.getElem?_cons_zero]; rfl
        case hqr3_23 => exact fun _ _ _ h => h
        case hyr3_23 => (refine Or.inl ⟨by rfl, ?_⟩; intro w hSw; (try dsimp only at hSw); go_simp; all_goals with_reducible rfl)
        try simp only [Act.put, List.setIfInBounds_toArray, List.set_cons_zero, List.set_cons_succ]
        refine wpAnyH_take (i := 24) (oi := ?oir3_24) (v := ?vr3_24) ?hir3_24 (by kernel_rfl) (by kernel_rfl) (by kernel_rfl) ?hqr3_24 ?hyr3_24 (by assumption) ?restr3_24
        case hir3_24 => simp only [List.getElem?_toArray, List.getElem?_cons_succ, List.getElem?_cons_zero]; rfl
        case hqr3_24 => exact fun _ _ _ h => h
        case hyr3_24 => (refine Or.inl ⟨by rfl, ?_⟩; intro w hSw; (try dsimp only at hSw); go_simp; all_goals with_reducible rfl)
        try simp only [Act.put, List.setIfInBounds_toArray, List.set_cons_zero, List.set_cons_succ]
        refine wpAnyH_take (i := 25) (oi := ?oir3_25) (v := ?vr3_25) ?hir3_25 (by kernel_rfl) (by kernel_rfl) (by kernel_rfl) ?hqr3_25 ?hyr3_25 (by assumption) ?restr3_25
        case hir3_25 => simp only [List.getElem?_toArray, List.getElem?_cons_succ, List.getElem?_cons_zero]; rfl
        case hqr3_25 => exact fun _ _ _ h => h
        case hyr3_25 => (refine Or.inl ⟨by rfl, ?_⟩; intro w hSw; (try dsimp only at hSw); go_simp; all_goals with_reducible rfl)
        try simp only [Act.put, List.setIfInBounds_toArray, List.set_cons_zero, List.set_cons_succ]
        refine wpAnyH_take (i := 26) (oi := ?oir3_26) (v := ?vr3_26) ?hir3_26 (by kernel_rfl) (by kernel_rfl) (by kernel_rfl) ?hqr3_26 ?hyr3_26 (by assumption) ?restr3_26
        case hir3_26 => simp only [List.getElem?_toArray, List.getElem?_cons_succ, List.getElem?_cons_zero]; rfl
        case hqr3_26 => exact fun _ _ _ h => h
        case hyr3_26 => (refine Or.inl ⟨by rfl, ?_⟩; intro w hSw; (try dsimp only at hSw); go_simp; all_goals with_reducible rfl)
        try simp only [Act.put, List.setIfInBounds_toArray, List.set_cons_zero, List.set_cons_succ]
        refine wpAnyH_take (i := 27) (oi := ?oir3_27) (v := ?vr3_27) ?hir3_27 (by kernel_rfl) (by kernel_rfl) (by kernel_rfl) ?hqr3_27 ?hyr3_27 (by assumption) ?restr3_27
        case hir3_27 => simp only [List.getElem?_toArray, List.getElem?_cons_succ, List.getElem?_cons_zero]; rfl
        case hqr3_27 => exact fun _ _ _ h => h
        case hyr3_27 => (refine Or.inl ⟨by rfl, ?_⟩; intro w hSw; (try dsimp only at hSw); go_simp; all_goals with_reducible rfl)
        try simp only [Act.put, List.setIfInBounds_toArray, List.set_cons_zero, List.set_cons_succ]
        refine wpAnyH_ready (rs := [28]) (by kernel_rfl) (by simp) ?_
        refine AllReadyH.cons (o := ?or4_28) ?hor4_28 (fun K hK => ?kr4_28) AllReadyH.nil
        case hor4_28 => simp only [List.getElem?_toArray, List.getElem?_cons_succ, List.getElem?_cons_zero]; rfl
        go_simp
        have c := Doubt_any w301 p PWW.out x hxb
        rw [HDB0.out] at c
        refine c.mono ?_
        rintro e w302 ⟨rfl, hb⟩
        clear c
        replace kd := cell_below hb kd
        replace ky := cell_below hb ky
        replace kx := cell_below hb kx
        replace kp0 := cell_below hb kp0
        replace kp1 := cell_below hb kp1
        replace kp2 := cell_below hb kp2
        have B302 := B301.trans (hb.mono B301.size)
        have h_p_302 := h_p_301.later hb
        have h_y_302 := h_y_301.later hb
        have h_o_302 := h_o_301.later hb
        have h_d_302 := h_d_301.below hb
        have h_x_302 := h_x_301.below hb
        clear hb B301 h_p_301 h_y_301 h_o_301 h_d_301 h_x_301
        go_wp2_with fail
        clear hHeld
        refine hK.out _ _ ?_ (fun hHeld => ?_)
        · exact ⟨kd, ky, kx, kp0, kp1, kp2, trivial⟩
        clear hK K
        try simp only [Act.put, List.setIfInBounds_toArray, List.set_cons_zero, List.set_cons_succ]
        refine wpAnyH_take (i := 29) (oi := ?oir5_29) (v := ?vr5_29) ?hir5_29 (by kernel_rfl) (by kernel_rfl) (by kernel_rfl) ?hqr5_29 ?hyr5_29 (by assumption) ?restr5_29
        case hir5_29 => simp only [List.getElem?_toArray, List.getElem?_cons_succ, List.getElem?_cons_zero]; rfl
        case hqr5_29 => exact fun _ _ _ h => h
        case hyr5_29 => (refine Or.inl ⟨by rfl, ?_⟩; intro w hSw; (try dsimp only at hSw); go_simp; all_goals with_reducible rfl)
        try simp only [Act.put, List.setIfInBounds_toArray, List.set_cons_zero, List.set_cons_succ]
        refine wpAnyH_take (i := 30) (oi := ?oir5_30) (v := ?vr5_30) ?hir5_30 (by kernel_rfl) (by kernel_rfl) (by kernel_rfl) ?hqr5_30 ?hyr5_30 (by assumption) ?restr5_30
        case hir5_30 => simp only [List.getElem?_toArray, List.getElem?_cons_succ, List.getElem?_cons_zero]; rfl
        case hqr5_30 => exact fun _ _ _ h => h
        case hyr5_30 => (refine Or.inl ⟨by rfl, ?_⟩; intro w hSw; (try dsimp only at hSw); go_simp; all_goals with_reducible rfl)
        try simp only [Act.put, List.setIfInBounds_toArray, List.set_cons_zero, List.set_cons_succ]
        refine wpAnyH_done (by kernel_rfl) ?_ _
        clear hHeld kd ky kx kp0 kp1 kp2
        cases db
        case false =>
          have HDB := Lib.hid (show decB p xs ds = false from decB_no (i := i) (by rw [HD.out]; exact hlt) (fun h => by have := h.1.2.2; rw [HBX.out, Int.toNat_natCast, HXB.out, HDB0.out] at this; cases this))
          have HRR := Lib.hid (show r = (zeroR, 2) by rw [HR2.out, HDB.out]; rfl)
          have R := h_o_302
          go_wp2_with first | refine wpList_store_whole rfl 51 _ _ rfl atRea _ _ _ R.row rfl rfl rfl rfl (rea_one 0 0 none none 0 0 0 0) ?_
          refine bodyPost_ret (results_cell_two rfl _ _ _ _ _ _ _ rfl (setRow_heap _ _ _ _ _ _ R.row) Try.underlying51 rfl (by kernel_rfl) _ rfl) rfl ?_
          exact RetR.nils HRR.out (HO0.out.trans ((R.put _).below.mono HO0.out.size))
        case true =>
          go_wp2_with fail
          have I_p := Lib.hid h_p_302
          have I_y := Lib.hid h_y_302
          have I_o := Lib.hid h_o_302
          have I_d := Lib.hid h_d_302
          have I_x := Lib.hid h_x_302
          have I_B := Lib.hid B302
          have HRG := Lib.hid (show 0 ≤ (dth ds i).bx ∧ (dth ds i).bx < (xs.length : Int) ∧ doubtB p (nth xs (dth ds i).bx.toNat) = true by rw [HBX.out, HX.out, Int.toNat_natCast, HXB.out]; exact ⟨by omega, by omega, HDB0.out⟩)
          go_loopw [12] (fun kv wz => ∃ k : Nat, k ≤ i ∧ kv = .int .i64 (k : Nat) ∧ Below w302.heap.size w302 wz ∧ Hid (∀ m, m < k → ¬ (dth ds m).bx = (b : Nat))) (fun kv _ => i - (intOf kv).toNat)
          case atStart => exact ⟨0, Nat.zero_le _, rfl, Below.refl _ _, Lib.hid fun m hm => absurd hm (by omega)⟩
          case round =>
            rename World => wz
            obtain ⟨k, hk, rfl, BZ, hK⟩ := hrel
            by_cases hki : k < i
            case neg =>
              obtain rfl : i = k := by omega
              have HS : Hid (∀ m, m < i + 1 → okD p xs ds m) := Lib.hid fun m hm => by
                by_cases hmi : m < i
                · exact hS.out m hmi
                · obtain rfl : m = i := by omega
                  exact ⟨HRG.out, fun k hk => by rw [HBX.out]; exact hK.out k hk⟩
              have hbe := I_B.out.trans (BZ.mono I_B.out.size)
              go_wp2_with fail
              go_roundw
              case rel => exact ⟨i + 1, by omega, by go_num, hbe, HS⟩
              case measure => simp [intOf]; omega
            case pos =>
              have B600 := BZ
              have h_o_600 := I_o.out.later BZ
              have h_d_600 := I_d.out.below BZ
              clear BZ
              obtain ⟨bd2, od2, e9, hcc⟩ := h_d_600.addr (by omega)
              simp only [Option.some.injEq, Addr.mk.injEq, and_true] at e9
              obtain ⟨rfl, rfl⟩ := e9
              obtain ⟨k1, -⟩ := hcc i hlt
              obtain ⟨k2, -⟩ := hcc k (by omega)
              clear hcc
              rw [HBX.out] at k1
              obtain ⟨by_, hby⟩ : ∃ by_, (dth ds k).bx = by_ := ⟨_, rfl⟩
              rw [hby] at k2
              have HBY := Lib.hid hby
              clear hby
              have hkn : k < n_d := by omega
              by_cases e : by_ = (b : Int)
              case pos =>
                have e1 : (by_ == ((b : Nat) : Int)) = true := by simpa using e
                have HE := Lib.hid e
                clear e
                go_upto_region 16 with fail
                have hb := (Below.refl wz.heap.size wz).drew
                replace k1 := cell_below hb k1
                replace k2 := cell_below hb k2
                have B601 := B600.trans (hb.mono B600.size)
                have h_o_601 := h_o_600.later hb
                have h_d_601 := h_d_600.below hb
                clear hb B600 h_o_600 h_d_600
                refine wp_region_held_drew (S := (fun w' => w'.cell? ⟨bd, od + i * 2, none⟩ = some (.int .i64 ((b : Nat) : Int)) ∧ w'.cell? ⟨bd, od + k * 2, none⟩ = some (.int .i64 by_) ∧ True)) (by kernel_rfl) ?_ (fun hHeld => ?_)
                · exact ⟨k1, k2, trivial⟩
                generalize wz.drew = w601 at *
                refine wpAnyH_take (i := 0) (oi := ?oir6_0) (v := ?vr6_0) ?hir6_0 (by kernel_rfl) (by kernel_rfl) (by kernel_rfl) ?hqr6_0 ?hyr6_0 (by assumption) ?restr6_0
                case hir6_0 => simp only [List.getElem?_toArray, List.getElem?_cons_succ, List.getElem?_cons_zero]; rfl
                case hqr6_0 => exact fun _ _ _ h => h
                case hyr6_0 => (refine Or.inl ⟨by rfl, ?_⟩; intro w hSw; (try dsimp only at hSw); go_simp; all_goals with_reducible rfl)
                try simp only [Act.put, List.setIfInBounds_toArray, List.set_cons_zero, List.set_cons_succ]
                refine wpAnyH_take (i := 1) (oi := ?oir6_1) (v := ?vr6_1) ?hir6_1 (by kernel_rfl) (by kernel_rfl) (by kernel_rfl) ?hqr6_1 ?hyr6_1 (by assumption) ?restr6_1
                case hir6_1 => simp only [List.getElem?_toArray, List.getElem?_cons_succ, List.getElem?_cons_zero]; rfl
                case hqr6_1 => exact fun _ _ _ h => h
                case hyr6_1 => (refine Or.inl ⟨by rfl, ?_⟩; intro w hSw; (try dsimp only at hSw); go_simp; all_goals with_reducible rfl)
                try simp only [Act.put, List.setIfInBounds_toArray, List.set_cons_zero, List.set_cons_succ]
                refine wpAnyH_take (i := 2) (oi := ?oir6_2) (v := ?vr6_2) ?hir6_2 (by kernel_rfl) (by kernel_rfl) (by kernel_rfl) ?hqr6_2 ?hyr6_2 (by assumption) ?restr6_2
                case hir6_2 => simp only [List.getElem?_toArray, List.getElem?_cons_succ, List.getElem?_cons_zero]; rfl
                case hqr6_2 => exact fun _ _ _ h => h
                case hyr6_2 => (refine Or.inl ⟨by rfl, ?_⟩; intro w hSw; (try dsimp only at hSw); go_simp; all_goals with_reducible rfl)
                try simp only [Act.put, List.setIfInBounds_toArray, List.set_cons_zero, List.set_cons_succ]
                refine wpAnyH_take (i := 3) (oi := ?oir6_3) (v := ?vr6_3) ?hir6_3 (by kernel_rfl) (by kernel_rfl) (by kernel_rfl) ?hqr6_3 ?hyr6_3 (by assumption) ?restr6_3
                case hir6_3 => simp only [List.getElem?_toArray, List.getElem?_cons_succ, List.getElem?_cons_zero]; rfl
                case hqr6_3 => exact fun _ _ _ h => h
                case hyr6_3 => (refine Or.inl ⟨by rfl, ?_⟩; intro w hSw; (try dsimp only at hSw); go_simp; all_goals with_reducible rfl)
                try simp only [Act.put, List.setIfInBounds_toArray, List.set_cons_zero, List.set_cons_succ]
                refine wpAnyH_take (i := 4) (oi := ?oir6_4) (v := ?vr6_4) ?hir6_4 (by kernel_rfl) (by kernel_rfl) (by kernel_rfl) ?hqr6_4 ?hyr6_4 (by assumption) ?restr6_4
                case hir6_4 => simp only [List.getElem?_toArray, List.getElem?_cons_succ, List.getElem?_cons_zero]; rfl
                case hqr6_4 => exact fun _ _ _ h => h
                case hyr6_4 => (refine Or.inl ⟨by rfl, ?_⟩; intro w hSw; (try dsimp only at hSw); go_simp; all_goals with_reducible rfl)
                try simp only [Act.put, List.setIfInBounds_toArray, List.set_cons_zero, List.set_cons_succ]
                refine wpAnyH_take (i := 5) (oi := ?oir6_5) (v := ?vr6_5) ?hir6_5 (by kernel_rfl) (by kernel_rfl) (by kernel_rfl) ?hqr6_5 ?hyr6_5 (by assumption) ?restr6_5
                case hir6_5 => simp only [List.getElem?_toArray, List.getElem?_cons_succ, List.getElem?_cons_zero]; rfl
                case hqr6_5 => exact fun _ _ _ h => h
                case hyr6_5 => (refine Or.inl ⟨by rfl, ?_⟩; intro w hSw; (try dsimp only at hSw); go_simp; all_goals with_reducible rfl)
                try simp only [Act.put, List.setIfInBounds_toArray, List.set_cons_zero, List.set_cons_succ]
                refine wpAnyH_take (i := 6) (oi := ?oir6_6) (v := ?vr6_6) ?hir6_6 (by kernel_rfl) (by kernel_rfl) (by kernel_rfl) ?hqr6_6 ?hyr6_6 (by assumption) ?restr6_6
                case hir6_6 => simp only [List.getElem?_toArray, List.getElem?_cons_succ, List.getElem?_cons_zero]; rfl
                case hqr6_6 => exact fun _ _ _ h => h
                case hyr6_6 => (refine Or.inl ⟨by rfl, ?_⟩; intro w hSw; (try dsimp only at hSw); go_simp; all_goals with_reducible rfl)
                try simp only [Act.put, List.setIfInBounds_toArray, List.set_cons_zero, List.set_cons_succ]
                refine wpAnyH_take (i := 7) (oi := ?oir6_7) (v := ?vr6_7) ?hir6_7 (by kernel_rfl) (by kernel_rfl) (by kernel_rfl) ?hqr6_7 ?hyr6_7 (by assumption) ?restr6_7
                case hir6_7 => simp only [List.getElem?_toArray, List.getElem?_cons_succ, List.getElem?_cons_zero]; rfl
                case hqr6_7 => exact fun _ _ _ h => h
                case hyr6_7 => (refine Or.inl ⟨by rfl, ?_⟩; intro w hSw; (try dsimp only at hSw); go_simp; all_goals with_reducible rfl)
                try simp only [Act.put, List.setIfInBounds_toArray, List.set_cons_zero, List.set_cons_succ]
                refine wpAnyH_take (i := 8) (oi := ?oir6_8) (v := ?vr6_8) ?hir6_8 (by kernel_rfl) (by kernel_rfl) (by kernel_rfl) ?hqr6_8 ?hyr6_8 (by assumption) ?restr6_8
                case hir6_8 => simp only [List.getElem?_toArray, List.getElem?_cons_succ, List.getElem?_cons_zero]; rfl
                case hqr6_8 => exact fun _ _ _ h => h
                case hyr6_8 => (refine Or.inl ⟨by rfl, ?_⟩; intro w hSw; (try dsimp only at hSw); go_simp; all_goals with_reducible rfl)
                try simp only [Act.put, List.setIfInBounds_toArray, List.set_cons_zero, List.set_cons_succ]
                refine wpAnyH_take (i := 9) (oi := ?oir6_9) (v := ?vr6_9) ?hir6_9 (by kernel_rfl) (by kernel_rfl) (by kernel_rfl) ?hqr6_9 ?hyr6_9 (by assumption) ?restr6_9
                case hir6_9 => simp only [List.getElem?_toArray, List.getElem?_cons_succ, List.getElem?_cons_zero]; rfl
                case hqr6_9 => exact fun _ _ _ h => h
                case hyr6_9 => (refine Or.inl ⟨by rfl, ?_⟩; intro w hSw; (try dsimp only at hSw); go_simp; all_goals with_reducible rfl)
                try simp only [Act.put, List.setIfInBounds_toArray, List.set_cons_zero, List.set_cons_succ]
                refine wpAnyH_take (i := 10) (oi := ?oir6_10) (v := ?vr6_10) ?hir6_10 (by kernel_rfl) (by kernel_rfl) (by kernel_rfl) ?hqr6_10 ?hyr6_10 (by assumption) ?restr6_10
                case hir6_10 => simp only [List.getElem?_toArray, List.getElem?_cons_succ, List.getElem?_cons_zero]; rfl
                case hqr6_10 => exact fun _ _ _ h => h
                case hyr6_10 => (refine Or.inl ⟨by rfl, ?_⟩; intro w hSw; (try dsimp only at hSw); go_simp; all_goals with_reducible rfl)
                try simp only [Act.put, List.setIfInBounds_toArray, List.set_cons_zero, List.set_cons_succ]
                refine wpAnyH_done (by kernel_rfl) ?_ _
                clear hHeld k1 k2
                have HDB := Lib.hid (show decB p xs ds = false from decB_no (i := i) (by rw [HD.out]; exact hlt) (fun h => h.2 k hki (by rw [HBX.out, HBY.out]; exact HE.out)))
                have HRR := Lib.hid (show r = (zeroR, 2) by rw [HR2.out, HDB.out]; rfl)
                have R := h_o_601
                go_wp2_with first | refine wpList_store_whole rfl 51 _ _ rfl atRea _ _ _ R.row rfl rfl rfl rfl (rea_one 0 0 none none 0 0 0 0) ?_
                refine bodyPost_ret (results_cell_two rfl _ _ _ _ _ _ _ rfl (setRow_heap _ _ _ _ _ _ R.row) Try.underlying51 rfl (by kernel_rfl) _ rfl) rfl ?_
                exact RetR.nils HRR.out (HO0.out.trans ((R.put _).below.mono HO0.out.size))
              case neg =>
                have e1 : (by_ == ((b : Nat) : Int)) = false := by simpa using e
                have HE := Lib.hid e
                clear e
                go_upto_region 16 with fail
                have hb := (Below.refl wz.heap.size wz).drew
                replace k1 := cell_below hb k1
                replace k2 := cell_below hb k2
                have B601 := B600.trans (hb.mono B600.size)
                have h_o_601 := h_o_600.later hb
                have h_d_601 := h_d_600.below hb
                clear hb B600 h_o_600 h_d_600
                refine wp_region_held_drew (S := (fun w' => w'.cell? ⟨bd, od + i * 2, none⟩ = some (.int .i64 ((b : Nat) : Int)) ∧ w'.cell? ⟨bd, od + k * 2, none⟩ = some (.int .i64 by_) ∧ True)) (by kernel_rfl) ?_ (fun hHeld => ?_)
                · exact ⟨k1, k2, trivial⟩
                generalize wz.drew = w601 at *
                refine wpAnyH_take (i := 0) (oi := ?oir7_0) (v := ?vr7_0) ?hir7_0 (by kernel_rfl) (by kernel_rfl) (by kernel_rfl) ?hqr7_0 ?hyr7_0 (by assumption) ?restr7_0
                case hir7_0 => simp only [List.getElem?_toArray, List.getElem?_cons_succ, List.getElem?_cons_zero]; rfl
                case hqr7_0 => exact fun _ _ _ h => h
                case hyr7_0 => (refine Or.inl ⟨by rfl, ?_⟩; intro w hSw; (try dsimp only at hSw); go_simp; all_goals with_reducible rfl)
                try simp only [Act.put, List.setIfInBounds_toArray, List.set_cons_zero, List.set_cons_succ]
                refine wpAnyH_take (i := 1) (oi := ?oir7_1) (v := ?vr7_1) ?hir7_1 (by kernel_rfl) (by kernel_rfl) (by kernel_rfl) ?hqr7_1 ?hyr7_1 (by assumption) ?restr7_1
                case hir7_1 => simp only [List.getElem?_toArray, List.getElem?_cons_succ, List.getElem?_cons_zero]; rfl
                case hqr7_1 => exact fun _ _ _ h => h
                case hyr7_1 => (refine Or.inl ⟨by rfl, ?_⟩; intro w hSw; (try dsimp only at hSw); go_simp; all_goals with_reducible rfl)
                try simp only [Act.put, List.setIfInBounds_toArray, List.set_cons_zero, List.set_cons_succ]
                refine wpAnyH_take (i := 2) (oi := ?oir7_2) (v := ?vr7_2) ?hir7_2 (by kernel_rfl) (by kernel_rfl) (by kernel_rfl) ?hqr7_2 ?hyr7_2 (by assumption) ?restr7_2
                case hir7_2 => simp only [List.getElem?_toArray, List.getElem?_cons_succ, List.getElem?_cons_zero]; rfl
                case hqr7_2 => exact fun _ _ _ h => h
                case hyr7_2 => (refine Or.inl ⟨by rfl, ?_⟩; intro w hSw; (try dsimp only at hSw); go_simp; all_goals with_reducible rfl)
                try simp only [Act.put, List.setIfInBounds_toArray, List.set_cons_zero, List.set_cons_succ]
                refine wpAnyH_take (i := 3) (oi := ?oir7_3) (v := ?vr7_3) ?hir7_3 (by kernel_rfl) (by kernel_rfl) (by kernel_rfl) ?hqr7_3 ?hyr7_3 (by assumption) ?restr7_3
                case hir7_3 => simp only [List.getElem?_toArray, List.getElem?_cons_succ, List.getElem?_cons_zero]; rfl
                case hqr7_3 => exact fun _ _ _ h => h
                case hyr7_3 => (refine Or.inl ⟨by rfl, ?_⟩; intro w hSw; (try dsimp only at hSw); go_simp; all_goals with_reducible rfl)
                try simp only [Act.put, List.setIfInBounds_toArray, List.set_cons_zero, List.set_cons_succ]
                refine wpAnyH_take (i := 4) (oi := ?oir7_4) (v := ?vr7_4) ?hir7_4 (by kernel_rfl) (by kernel_rfl) (by kernel_rfl) ?hqr7_4 ?hyr7_4 (by assumption) ?restr7_4
                case hir7_4 => simp only [List.getElem?_toArray, List.getElem?_cons_succ, List.getElem?_cons_zero]; rfl
                case hqr7_4 => exact fun _ _ _ h => h
                case hyr7_4 => (refine Or.inl ⟨by rfl, ?_⟩; intro w hSw; (try dsimp only at hSw); go_simp; all_goals with_reducible rfl)
                try simp only [Act.put, List.setIfInBounds_toArray, List.set_cons_zero, List.set_cons_succ]
                refine wpAnyH_take (i := 5) (oi := ?oir7_5) (v := ?vr7_5) ?hir7_5 (by kernel_rfl) (by kernel_rfl) (by kernel_rfl) ?hqr7_5 ?hyr7_5 (by assumption) ?restr7_5
                case hir7_5 => simp only [List.getElem?_toArray, List.getElem?_cons_succ, List.getElem?_cons_zero]; rfl
                case hqr7_5 => exact fun _ _ _ h => h
                case hyr7_5 => (refine Or.inl ⟨by rfl, ?_⟩; intro w hSw; (try dsimp only at hSw); go_simp; all_goals with_reducible rfl)
                try simp only [Act.put, List.setIfInBounds_toArray, List.set_cons_zero, List.set_cons_succ]
                refine wpAnyH_take (i := 6) (oi := ?oir7_6) (v := ?vr7_6) ?hir7_6 (by kernel_rfl) (by kernel_rfl) (by kernel_rfl) ?hqr7_6 ?hyr7_6 (by assumption) ?restr7_6
                case hir7_6 => simp only [List.getElem?_toArray, List.getElem?_cons_succ, List.getElem?_cons_zero]; rfl
                case hqr7_6 => exact fun _ _ _ h => h
                case hyr7_6 => (refine Or.inl ⟨by rfl, ?_⟩; intro w hSw; (try dsimp only at hSw); go_simp; all_goals with_reducible rfl)
                try simp only [Act.put, List.setIfInBounds_toArray, List.set_cons_zero, List.set_cons_succ]
                refine wpAnyH_take (i := 7) (oi := ?oir7_7) (v := ?vr7_7) ?hir7_7 (by kernel_rfl) (by kernel_rfl) (by kernel_rfl) ?hqr7_7 ?hyr7_7 (by assumption) ?restr7_7
                case hir7_7 => simp only [List.getElem?_toArray, List.getElem?_cons_succ, List.getElem?_cons_zero]; rfl
                case hqr7_7 => exact fun _ _ _ h => h
                case hyr7_7 => (refine Or.inl ⟨by rfl, ?_⟩; intro w hSw; (try dsimp only at hSw); go_simp; all_goals with_reducible rfl)
                try simp only [Act.put, List.setIfInBounds_toArray, List.set_cons_zero, List.set_cons_succ]
                refine wpAnyH_take (i := 8) (oi := ?oir7_8) (v := ?vr7_8) ?hir7_8 (by kernel_rfl) (by kernel_rfl) (by kernel_rfl) ?hqr7_8 ?hyr7_8 (by assumption) ?restr7_8
                case hir7_8 => simp only [List.getElem?_toArray, List.getElem?_cons_succ, List.getElem?_cons_zero]; rfl
                case hqr7_8 => exact fun _ _ _ h => h
                case hyr7_8 => (refine Or.inl ⟨by rfl, ?_⟩; intro w hSw; (try dsimp only at hSw); go_simp; all_goals with_reducible rfl)
                try simp only [Act.put, List.setIfInBounds_toArray, List.set_cons_zero, List.set_cons_succ]
                refine wpAnyH_take (i := 9) (oi := ?oir7_9) (v := ?vr7_9) ?hir7_9 (by kernel_rfl) (by kernel_rfl) (by kernel_rfl) ?hqr7_9 ?hyr7_9 (by assumption) ?restr7_9
                case hir7_9 => simp only [List.getElem?_toArray, List.getElem?_cons_succ, List.getElem?_cons_zero]; rfl
                case hqr7_9 => exact fun _ _ _ h => h
                case hyr7_9 => (refine Or.inl ⟨by rfl, ?_⟩; intro w hSw; (try dsimp only at hSw); go_simp; all_goals with_reducible rfl)
                try simp only [Act.put, List.setIfInBounds_toArray, List.set_cons_zero, List.set_cons_succ]
                refine wpAnyH_take (i := 10) (oi := ?oir7_10) (v := ?vr7_10) ?hir7_10 (by kernel_rfl) (by kernel_rfl) (by kernel_rfl) ?hqr7_10 ?hyr7_10 (by assumption) ?restr7_10
                case hir7_10 => simp only [List.getElem?_toArray, List.getElem?_cons_succ, List.getElem?_cons_zero]; rfl
                case hqr7_10 => exact fun _ _ _ h => h
                case hyr7_10 => (refine Or.inl ⟨by rfl, ?_⟩; intro w hSw; (try dsimp only at hSw); go_simp; all_goals with_reducible rfl)
                try simp only [Act.put, List.setIfInBounds_toArray, List.set_cons_zero, List.set_cons_succ]
                refine wpAnyH_done (by kernel_rfl) ?_ _
                clear hHeld k1 k2
                go_wp2_with fail
                go_roundw
                case rel => exact ⟨k + 1, by omega, by go_num, B601, Lib.hid fun m hm => by
                              by_cases hmk : m < k
                              · exact hK.out m hmk
                              · obtain rfl : m = k := by omega
                                rw [HBY.out]; exact HE.out⟩
                case measure => simp [intOf]; omega
      case neg =>
        obtain rfl : n_d = i := by omega
        have HDB := Lib.hid (show decB p xs ds = true from decide_eq_true (by rw [HD.out]; exact hS.out))
        obtain ⟨k, hk0⟩ : ∃ k, kindN rule = k := ⟨_, rfl⟩
        have hk3 : k < 256 := by rw [← hk0]; exact Nat.lt_of_le_of_lt (kind_le rule) (by decide)
        have HKI2 := Lib.hid (show k = 1 ∨ k = 2 ∨ k = 3 by rw [← hk0]; exact HKI.out)
        have HKO := Lib.hid (show kindOf rule = k by rw [← hk0]; exact kindOf_eq rule HQ3.out)
        have HNX := Lib.hid (show n_x = n_s * wideN k n_s by rw [← HX.out, HNB.out, ← hk0, ← HN.out]; rfl)
        obtain ⟨mk, hmk⟩ : ∃ mk, markL p xs ds n_x = mk := ⟨_, rfl⟩
        obtain ⟨dt, hdt⟩ : ∃ dt, dbtL p xs ds n_x = dt := ⟨_, rfl⟩
        have HMK := Lib.hid hmk
        have HDT := Lib.hid hdt
        have HRF := Lib.hid (show r = (⟨k, (bodyR k n_s rule p mk).1, (bodyR k n_s rule p mk).2, dt⟩, 0) by rw [HR2.out, HDB.out, if_pos rfl, hk0, HN.out, HX.out, hmk, hdt])
        have hmkl : mk.length = n_x := by rw [← hmk]; exact markL_len _ _ _ _
        clear hk0 hmk hdt
        have B900 := H_B.out.trans (BT.mono H_B.out.size)
        have h_s_900 := H_s.out.below BT
        have h_x_900 := H_x.out.below BT
        have h_d_900 := H_d.out.below BT
        have h_c_900 := H_c.out.later BT
        have h_p_900 := H_p.out.later BT
        have h_y_900 := H_y.out.later BT
        have h_o_900 := H_o.out.later BT
        have HSZW := Lib.hid BT.size
        clear BT hmkl
        have k_p_0 := h_p_900.cell 0 _ rfl
        have k_p_1 := h_p_900.cell 1 _ rfl
        have k_p_2 := h_p_900.cell 2 _ rfl
        have k_y_0 := h_y_900.cell 0 _ rfl
        go_wp2_with fail
        clear k_p_0 k_p_1 k_p_2 k_y_0
        have HWR : w6.heap.size ≤ wr.heap.size := HSZW.out
        have c := Marked_any wr p PWW.out h_x_900 h_d_900 hnx
        rw [HMK.out] at c
        rw [HDT.out] at c
        refine c.mono ?_
        rintro e w901 ⟨a_k, c_k, b_t, m_t, d_t, rfl, h_k_901, h_t_901, hb⟩
        clear c
        have B901 := B900.trans (hb.mono B900.size)
        have h_s_901 := h_s_900.below hb
        have h_x_901 := h_x_900.below hb
        have h_d_901 := h_d_900.below hb
        have h_c_901 := h_c_900.later hb
        have h_p_901 := h_p_900.later hb
        have h_y_901 := h_y_900.later hb
        have h_o_901 := h_o_900.later hb
        clear hb B900 h_s_900 h_x_900 h_d_900 h_c_900 h_p_900 h_y_900 h_o_900
        have M_c := Lib.hid h_c_901
        have M_p := Lib.hid h_p_901
        have M_o := Lib.hid h_o_901
        have M_k := Lib.hid h_k_901
        have M_t := Lib.hid h_t_901
        have M_B := Lib.hid B901
        have hob := h_o_901.lt
        have hol := h_o_901.lo
        have PR := PRow.new 51 w901 #[.int .u8 0, .slice none 0 0, .int .i64 0, .slice b_t m_t d_t]
        have HPB := PR.below
        have kc3 := (M_c.out.later HPB).cell 3 _ rfl
        go_upto_region 20 with (first | refine wpList_store_new rfl 51 _ _ rfl atRea _ _ _ rfl rfl rfl rfl (rea_one 0 0 none b_t 0 0 m_t d_t) ?_)
        generalize w901.alloc (.cells #[.int .u8 0, .slice none 0 0, .int .i64 0, .slice b_t m_t d_t] 51) = wb at *
        have kr0 := PR.cell 0 _ rfl
        have fr0 := PR.free 0
        go_wp2_with fail
        refine (KindOf_any _ rule hr).mono ?_
        rintro e w9 ⟨rfl, hw9⟩
        subst hw9
        rw [HKO.out]
        have PR1 := PR.set 0 (.int .u8 ((k : Nat) : Int))
        simp only [List.setIfInBounds_toArray, List.set_cons_zero] at PR1
        have kk0 := PR1.cell 0 _ rfl
        go_upto_region 21 with fail
        clear kc3 kr0 fr0 PR HPB
        generalize wb.setCell ⟨w901.heap.size, 0, none⟩ (.int .u8 ((k : Nat) : Int)) = wa at *
        have HB2 := PR1.below
        have kc1 := (M_c.out.later HB2).cell 1 _ rfl
        have kc3 := (M_c.out.later HB2).cell 3 _ rfl
        have kp2 := (M_p.out.later HB2).cell 2 _ rfl
        have HMR := Lib.hid ((M_k.out.below HB2).rd oneB)
        have HPR1 := Lib.hid PR1
        by_cases hkk : k = 1
        case pos =>
          have e1 : (((k : Nat) : Int) == 1) = true := by simp; omega
          obtain ⟨br, hbr⟩ : ∃ br, bodyR k n_s rule p mk = br := ⟨_, rfl⟩
          have HBR := Lib.hid (show ranksR mk n_s p.skips = br by rw [← hbr, hkk]; rfl)
          have HRG := Lib.hid (show r = (⟨k, br.1, br.2, dt⟩, 0) by rw [HRF.out, hbr])
          have HNX2 := Lib.hid (show n_x = n_s * n_s by rw [HNX.out, hkk]; rfl)
          clear hbr hkk
          go_wp2_with fail
          have c := refRanks_any wa HMR.out n_s p.skips PWW.out.2.2.1 PWW.out.2.2.2 g1 HNX2.out
          rw [HBR.out] at c
          refine c.mono ?_
          rintro e wm ⟨a_m, n_m, c_m, rfl, h_m, hb⟩
          clear c
          have PR2 := HPR1.out.later hb
          have kr1 := PR2.cell 1 _ rfl
          have fr1 := PR2.free 1
          have PR3 := PR2.set 1 (.slice a_m n_m c_m)
          simp only [List.setIfInBounds_toArray, List.set_cons_zero, List.set_cons_succ] at PR3
          have kr2 := PR3.cell 2 _ rfl
          have fr2 := PR3.free 2
          have PR4 := PR3.set 2 (.int .i64 br.2)
          simp only [List.setIfInBounds_toArray, List.set_cons_zero, List.set_cons_succ] at PR4
          have hwa : w901.heap.size < wa.heap.size := HPR1.out.lt
          have HM := Lib.hid ((h_m.setLow (i := 1) hwa (.slice a_m n_m c_m)).setLow (i := 2) hwa (.int .i64 br.2))
          clear h_m PR2 PR3 hb
          go_upto_region 28 with fail
          clear kr1 fr1 kr2 fr2 kc1 kc3 kp2 kk0 HB2
          generalize (wm.setCell ⟨w901.heap.size, 1, none⟩ (.slice a_m n_m c_m)).setCell ⟨w901.heap.size, 2, none⟩ (.int .i64 br.2) = wf at *
          have q0 := PR4.cell 0 _ rfl
          have q1 := PR4.cell 1 _ rfl
          have q2 := PR4.cell 2 _ rfl
          have q3 := PR4.cell 3 _ rfl
          have RO := M_o.out.later PR4.below
          have HT := Lib.hid (M_t.out.below PR4.below)
          go_wp2_with first | refine wpList_store_whole rfl 51 _ _ rfl atRea _ _ _ RO.row rfl rfl rfl rfl (rea_one _ _ _ _ _ _ _ _) ?_
          refine bodyPost_ret (results_cell_two rfl _ _ _ _ _ _ _ rfl (setRow_heap _ _ _ _ _ _ RO.row) Try.underlying51 rfl (by kernel_rfl) _ rfl) rfl ?_
          have hsz1 := M_B.out.size
          exact ⟨a_m, n_m, c_m, b_t, m_t, d_t, by rw [HRG.out]; rfl, by rw [HRG.out]; exact ((HM.out.rowLow (by omega) _).base_le (by omega)), by rw [HRG.out]; exact ((HT.out.rowLow (by have h1 := H_o.out.lt; have h2 := HWR; omega) _).base_le (by have h2 := HWR; have h3 := H_B.out.size; omega)), HO0.out.trans ((RO.put _).below.mono HO0.out.size)⟩
        by_cases hkk2 : k = 3
        case pos =>
          clear hkk
          have hkk := hkk2
          clear hkk2
          have e1 : (((k : Nat) : Int) == 1) = false := by simp; omega
          have e2 : (((k : Nat) : Int) == 2) = false := by simp; omega
          have e3 : (((k : Nat) : Int) == 3) = true := by simp; omega
          obtain ⟨br, hbr⟩ : ∃ br, bodyR k n_s rule p mk = br := ⟨_, rfl⟩
          have HBR := Lib.hid (show scoresR mk n_s = br by rw [← hbr, hkk]; rfl)
          have HRG := Lib.hid (show r = (⟨k, br.1, br.2, dt⟩, 0) by rw [HRF.out, hbr])
          have HNX2 := Lib.hid (show n_x = n_s * 11 by rw [HNX.out, hkk]; rfl)
          clear hbr hkk
          go_wp2_with fail
          have c := refScores_any wa HMR.out n_s g1 HNX2.out
          rw [HBR.out] at c
          refine c.mono ?_
          rintro e wm ⟨a_m, n_m, c_m, rfl, h_m, hb⟩
          clear c
          have PR2 := HPR1.out.later hb
          have kr1 := PR2.cell 1 _ rfl
          have fr1 := PR2.free 1
          have PR3 := PR2.set 1 (.slice a_m n_m c_m)
          simp only [List.setIfInBounds_toArray, List.set_cons_zero, List.set_cons_succ] at PR3
          have kr2 := PR3.cell 2 _ rfl
          have fr2 := PR3.free 2
          have PR4 := PR3.set 2 (.int .i64 br.2)
          simp only [List.setIfInBounds_toArray, List.set_cons_zero, List.set_cons_succ] at PR4
          have hwa : w901.heap.size < wa.heap.size := HPR1.out.lt
          have HM := Lib.hid ((h_m.setLow (i := 1) hwa (.slice a_m n_m c_m)).setLow (i := 2) hwa (.int .i64 br.2))
          clear h_m PR2 PR3 hb
          go_upto_region 28 with fail
          clear kr1 fr1 kr2 fr2 kc1 kc3 kp2 kk0 HB2
          generalize (wm.setCell ⟨w901.heap.size, 1, none⟩ (.slice a_m n_m c_m)).setCell ⟨w901.heap.size, 2, none⟩ (.int .i64 br.2) = wf at *
          have q0 := PR4.cell 0 _ rfl
          have q1 := PR4.cell 1 _ rfl
          have q2 := PR4.cell 2 _ rfl
          have q3 := PR4.cell 3 _ rfl
          have RO := M_o.out.later PR4.below
          have HT := Lib.hid (M_t.out.below PR4.below)
          go_wp2_with first | refine wpList_store_whole rfl 51 _ _ rfl atRea _ _ _ RO.row rfl rfl rfl rfl (rea_one _ _ _ _ _ _ _ _) ?_
          refine bodyPost_ret (results_cell_two rfl _ _ _ _ _ _ _ rfl (setRow_heap _ _ _ _ _ _ RO.row) Try.underlying51 rfl (by kernel_rfl) _ rfl) rfl ?_
          have hsz1 := M_B.out.size
          exact ⟨a_m, n_m, c_m, b_t, m_t, d_t, by rw [HRG.out]; rfl, by rw [HRG.out]; exact ((HM.out.rowLow (by omega) _).base_le (by omega)), by rw [HRG.out]; exact ((HT.out.rowLow (by have h1 := H_o.out.lt; have h2 := HWR; omega) _).base_le (by have h2 := HWR; have h3 := H_B.out.size; omega)), HO0.out.trans ((RO.put _).below.mono HO0.out.size)⟩
        have hk2 : k = 2 := by rcases HKI2.out with h | h | h; exact absurd h hkk; exact h; exact absurd h hkk2
        clear hkk hkk2
        have hkk := hk2
        clear hk2
        have e1 : (((k : Nat) : Int) == 1) = false := by simp; omega
        have e2 : (((k : Nat) : Int) == 2) = true := by simp; omega
        obtain ⟨br, hbr⟩ : ∃ br, bodyR k n_s rule p mk = br := ⟨_, rfl⟩
        have HBR := Lib.hid (show marksR mk (marksN rule (n_s : Nat)) = br by rw [← hbr, hkk]; rfl)
        have HRG := Lib.hid (show r = (⟨k, br.1, br.2, dt⟩, 0) by rw [HRF.out, hbr])
        have HNX2 := Lib.hid (show n_x = n_s * 1 by rw [HNX.out, hkk]; rfl)
        clear hbr hkk
        obtain ⟨mo, hmo⟩ : ∃ mo, marksN rule (n_s : Nat) = mo := ⟨_, rfl⟩
        have HMO := Lib.hid hmo
        rw [hmo] at HBR
        clear hmo
        go_wp2_with fail
        refine (Marks_any _ rule hr ((n_s : Nat) : Int) (by omega) (by omega)).mono ?_
        rintro e w9 ⟨rfl, hw9⟩
        subst hw9
        rw [HMO.out]
        go_wp2_with fail
        have c := refMarks_any wa HMR.out mo hnx
        rw [HBR.out] at c
        refine c.mono ?_
        rintro e wm ⟨a_m, n_m, c_m, rfl, h_m, hb⟩
        clear c
        have PR2 := HPR1.out.later hb
        have kr1 := PR2.cell 1 _ rfl
        have fr1 := PR2.free 1
        have PR3 := PR2.set 1 (.slice a_m n_m c_m)
        simp only [List.setIfInBounds_toArray, List.set_cons_zero, List.set_cons_succ] at PR3
        have kr2 := PR3.cell 2 _ rfl
        have fr2 := PR3.free 2
        have PR4 := PR3.set 2 (.int .i64 br.2)
        simp only [List.setIfInBounds_toArray, List.set_cons_zero, List.set_cons_succ] at PR4
        have hwa : w901.heap.size < wa.heap.size := HPR1.out.lt
        have HM := Lib.hid ((h_m.setLow (i := 1) hwa (.slice a_m n_m c_m)).setLow (i := 2) hwa (.int .i64 br.2))
        clear h_m PR2 PR3 hb
        go_upto_region 28 with fail
        clear kr1 fr1 kr2 fr2 kc1 kc3 kp2 kk0 HB2
        generalize (wm.setCell ⟨w901.heap.size, 1, none⟩ (.slice a_m n_m c_m)).setCell ⟨w901.heap.size, 2, none⟩ (.int .i64 br.2) = wf at *
        have q0 := PR4.cell 0 _ rfl
        have q1 := PR4.cell 1 _ rfl
        have q2 := PR4.cell 2 _ rfl
        have q3 := PR4.cell 3 _ rfl
        have RO := M_o.out.later PR4.below
        have HT := Lib.hid (M_t.out.below PR4.below)
        go_wp2_with first | refine wpList_store_whole rfl 51 _ _ rfl atRea _ _ _ RO.row rfl rfl rfl rfl (rea_one _ _ _ _ _ _ _ _) ?_
        refine bodyPost_ret (results_cell_two rfl _ _ _ _ _ _ _ rfl (setRow_heap _ _ _ _ _ _ RO.row) Try.underlying51 rfl (by kernel_rfl) _ rfl) rfl ?_
        have hsz1 := M_B.out.size
        exact ⟨a_m, n_m, c_m, b_t, m_t, d_t, by rw [HRG.out]; rfl, by rw [HRG.out]; exact ((HM.out.rowLow (by omega) _).base_le (by omega)), by rw [HRG.out]; exact ((HT.out.rowLow (by have h1 := H_o.out.lt; have h2 := HWR; omega) _).base_le (by have h2 := HWR; have h3 := H_B.out.size; omega)), HO0.out.trans ((RO.put _).below.mono HO0.out.size)⟩

end Go.Proofs.Ytlfempfhohejiaa
