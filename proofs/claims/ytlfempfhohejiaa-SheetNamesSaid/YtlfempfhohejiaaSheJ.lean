/- Which boxes count as marked: the plain side, and the answer's MayPolicy, Doubt, decided, Marked. No condition. Printed by gen_shej.py. -/
import Derived.Test.YtlfempfhohejiaaSheI
namespace Go.Proofs.Ytlfempfhohejiaa
open Go.RowKit Go.Suf
set_option linter.unusedVariables false
set_option linter.unusedSimpArgs false

def mayP (p : PQ) : Bool := decide (1 ≤ p.low) && decide (p.low ≤ p.high) && decide (p.high ≤ 100) && decide (0 ≤ p.skips) && decide (p.skips ≤ 10)
def doubtB (p : PQ) (b : Nat) : Bool := decide (p.low ≤ b) && decide (b < p.high)
def findD (l : List DQ) (b : Int) : Option DQ := l.find? fun d => decide (d.bx = b)
def yesD (o : Option DQ) : Bool := match o with | some d => d.yes | none => false
def markB (p : PQ) (xs : List Nat) (l : List DQ) (i : Nat) : Bool := if doubtB p (nth xs i) = true then yesD (findD l (i : Nat)) else decide (p.high ≤ nth xs i)
def dbtB (p : PQ) (xs : List Nat) (l : List DQ) (i : Nat) : Bool := doubtB p (nth xs i) && (findD l (i : Nat)).isNone
def markL (p : PQ) (xs : List Nat) (l : List DQ) (n : Nat) : List Bool := (List.range n).map (markB p xs l)
def dbtL (p : PQ) (xs : List Nat) (l : List DQ) (n : Nat) : List Int := ((List.range n).filter (dbtB p xs l)).map fun i => ((i : Nat) : Int)

theorem findD_at {l : List DQ} {b : Int} {i : Nat} (hi : i < l.length) (he : (dth l i).bx = b) (hn : ∀ k, k < i → ¬ (dth l k).bx = b) : findD l b = some (dth l i) := by
  unfold findD
  rw [dth_eq hi]
  rw [List.find?_eq_some_iff_getElem]
  refine ⟨by rw [dth_eq hi] at he; simpa using he, i, hi, rfl, fun j hj => ?_⟩
  have := hn j hj
  rw [dth_eq (by omega)] at this
  simpa using this
theorem findD_none {l : List DQ} {b : Int} (hn : ∀ k, k < l.length → ¬ (dth l k).bx = b) : findD l b = none := by
  unfold findD
  rw [List.find?_eq_none]
  intro d hd
  obtain ⟨k, hk, rfl⟩ := List.getElem_of_mem hd
  have := hn k hk
  rw [dth_eq hk] at this
  simpa using this
theorem markL_succ (p : PQ) (xs : List Nat) (l : List DQ) (i : Nat) : markL p xs l (i + 1) = markL p xs l i ++ [markB p xs l i] := by simp [markL, List.range_succ]
theorem dbtL_succ (p : PQ) (xs : List Nat) (l : List DQ) (i : Nat) : dbtL p xs l (i + 1) = dbtL p xs l i ++ (if dbtB p xs l i = true then [((i : Nat) : Int)] else []) := by
  unfold dbtL
  rw [List.range_succ, List.filter_append]
  by_cases h : dbtB p xs l i = true
  · simp [h]
  · simp [h]
theorem markL_len (p : PQ) (xs : List Nat) (l : List DQ) (n : Nat) : (markL p xs l n).length = n := by simp [markL]
theorem dbtL_le (p : PQ) (xs : List Nat) (l : List DQ) (n : Nat) : (dbtL p xs l n).length ≤ n := by
  unfold dbtL
  rw [List.length_map]
  exact Nat.le_trans (List.length_filter_le _ _) (by simp)

/-- A row beside one that grows, of another type. -/
theorem own_grown {base base' : Nat} {e e' : TypeId} {w w' : World} {v v' : Value} {n m : Nat} {xs ys : List Value} (h : w.ownsRow base e 1 v n xs) (hv : w.ownsRow base' e' 1 v' m ys) (hne : e ≠ e') (hg : w.grownBy w' v'.ownBlock) : w'.ownsRow base e 1 v n xs := by
  refine ⟨h.1, ?_⟩
  rcases h.2 with h2 | ⟨b, c, cur, hb, hlo, hh, r⟩
  · exact .inl h2
  · refine .inr ⟨b, c, cur, hb, hlo, ?_, r⟩
    exact (hg.block b (Array.getElem?_eq_some_iff.1 hh).1 (fun e2 => own_block_ne hv hh hne e2.symm)).trans hh

set_option maxRecDepth 100000 in
set_option maxHeartbeats 2000000 in
theorem MayPolicy_any (w : World) (p : PQ) (pw : PW p) : Calls Try.prog 38 #[.agg (polc p)] w (fun e w' => e = .returned (.bool (mayP p)) ∧ Below w.heap.size w w') := by
  obtain ⟨lo, hi, sk⟩ := p
  obtain ⟨p1, p2, p3, p4⟩ := pw
  simp only at p1 p2 p3 p4
  have B0 : Below w.heap.size w w := Below.refl _ _
  go_enter Try.func38, Try.ntmps38
  have hb := below_al w (.cells #[.int .u8 ((lo : Nat) : Int), .int .u8 ((hi : Nat) : Int), .int .i64 sk] 48)
  have B1 := B0.trans (hb.mono B0.size)
  clear hb B0
  have h_p_1 := PRow.new 48 w #[.int .u8 ((lo : Nat) : Int), .int .u8 ((hi : Nat) : Int), .int .i64 sk]
  by_cases h1 : 1 ≤ lo
  case neg =>
    have k_p_0 := h_p_1.cell 0 _ rfl
    have k_p_1 := h_p_1.cell 1 _ rfl
    have k_p_2 := h_p_1.cell 2 _ rfl
    go_wp2_with fail
    clear k_p_0 k_p_1 k_p_2
    generalize (w.alloc (.cells #[.int .u8 ((lo : Nat) : Int), .int .u8 ((hi : Nat) : Int), .int .i64 sk] 48)) = w1 at *
    go_ret
    exact ⟨by simp [mayP]; omega, B1⟩
  by_cases h2 : lo ≤ hi
  case neg =>
    have k_p_0 := h_p_1.cell 0 _ rfl
    have k_p_1 := h_p_1.cell 1 _ rfl
    have k_p_2 := h_p_1.cell 2 _ rfl
    go_wp2_with fail
    clear k_p_0 k_p_1 k_p_2
    generalize (w.alloc (.cells #[.int .u8 ((lo : Nat) : Int), .int .u8 ((hi : Nat) : Int), .int .i64 sk] 48)) = w1 at *
    go_ret
    exact ⟨by simp [mayP]; omega, B1⟩
  by_cases h3 : hi ≤ 100
  case neg =>
    have k_p_0 := h_p_1.cell 0 _ rfl
    have k_p_1 := h_p_1.cell 1 _ rfl
    have k_p_2 := h_p_1.cell 2 _ rfl
    go_wp2_with fail
    clear k_p_0 k_p_1 k_p_2
    generalize (w.alloc (.cells #[.int .u8 ((lo : Nat) : Int), .int .u8 ((hi : Nat) : Int), .int .i64 sk] 48)) = w1 at *
    go_ret
    exact ⟨by simp [mayP]; omega, B1⟩
  by_cases h4 : 0 ≤ sk
  case neg =>
    have k_p_0 := h_p_1.cell 0 _ rfl
    have k_p_1 := h_p_1.cell 1 _ rfl
    have k_p_2 := h_p_1.cell 2 _ rfl
    go_wp2_with fail
    clear k_p_0 k_p_1 k_p_2
    generalize (w.alloc (.cells #[.int .u8 ((lo : Nat) : Int), .int .u8 ((hi : Nat) : Int), .int .i64 sk] 48)) = w1 at *
    go_ret
    exact ⟨by simp [mayP]; omega, B1⟩
  by_cases h5 : sk ≤ 10
  case neg =>
    have k_p_0 := h_p_1.cell 0 _ rfl
    have k_p_1 := h_p_1.cell 1 _ rfl
    have k_p_2 := h_p_1.cell 2 _ rfl
    go_wp2_with fail
    clear k_p_0 k_p_1 k_p_2
    generalize (w.alloc (.cells #[.int .u8 ((lo : Nat) : Int), .int .u8 ((hi : Nat) : Int), .int .i64 sk] 48)) = w1 at *
    go_ret
    exact ⟨by simp [mayP]; omega, B1⟩
  have k_p_0 := h_p_1.cell 0 _ rfl
  have k_p_1 := h_p_1.cell 1 _ rfl
  have k_p_2 := h_p_1.cell 2 _ rfl
  go_wp2_with fail
  clear k_p_0 k_p_1 k_p_2
  generalize (w.alloc (.cells #[.int .u8 ((lo : Nat) : Int), .int .u8 ((hi : Nat) : Int), .int .i64 sk] 48)) = w1 at *
  go_ret
  exact ⟨by simp [mayP]; omega, B1⟩

set_option maxRecDepth 100000 in
set_option maxHeartbeats 2000000 in
theorem Doubt_any (w : World) (p : PQ) (pw : PW p) (b : Nat) (hb : b < 256) : Calls Try.prog 39 #[.agg (polc p), .int .u8 ((b : Nat) : Int)] w (fun e w' => e = .returned (.bool (doubtB p b)) ∧ Below w.heap.size w w') := by
  obtain ⟨lo, hi, sk⟩ := p
  obtain ⟨p1, p2, p3, p4⟩ := pw
  simp only at p1 p2 p3 p4
  have B0 : Below w.heap.size w w := Below.refl _ _
  go_enter Try.func39, Try.ntmps39
  have hb := below_al w (.cells #[.int .u8 ((lo : Nat) : Int), .int .u8 ((hi : Nat) : Int), .int .i64 sk] 48)
  have B1 := B0.trans (hb.mono B0.size)
  clear hb B0
  have h_p_1 := PRow.new 48 w #[.int .u8 ((lo : Nat) : Int), .int .u8 ((hi : Nat) : Int), .int .i64 sk]
  by_cases h1 : lo ≤ b
  case neg =>
    have k_p_0 := h_p_1.cell 0 _ rfl
    have k_p_1 := h_p_1.cell 1 _ rfl
    have k_p_2 := h_p_1.cell 2 _ rfl
    go_wp2_with fail
    clear k_p_0 k_p_1 k_p_2
    generalize (w.alloc (.cells #[.int .u8 ((lo : Nat) : Int), .int .u8 ((hi : Nat) : Int), .int .i64 sk] 48)) = w1 at *
    go_ret
    exact ⟨by simp [doubtB]; omega, B1⟩
  by_cases h2 : b < hi
  case neg =>
    have k_p_0 := h_p_1.cell 0 _ rfl
    have k_p_1 := h_p_1.cell 1 _ rfl
    have k_p_2 := h_p_1.cell 2 _ rfl
    go_wp2_with fail
    clear k_p_0 k_p_1 k_p_2
    generalize (w.alloc (.cells #[.int .u8 ((lo : Nat) : Int), .int .u8 ((hi : Nat) : Int), .int .i64 sk] 48)) = w1 at *
    go_ret
    exact ⟨by simp [doubtB]; omega, B1⟩
  have k_p_0 := h_p_1.cell 0 _ rfl
  have k_p_1 := h_p_1.cell 1 _ rfl
  have k_p_2 := h_p_1.cell 2 _ rfl
  go_wp2_with fail
  clear k_p_0 k_p_1 k_p_2
  generalize (w.alloc (.cells #[.int .u8 ((lo : Nat) : Int), .int .u8 ((hi : Nat) : Int), .int .i64 sk] 48)) = w1 at *
  go_ret
  exact ⟨by simp [doubtB]; omega, B1⟩

set_option maxRecDepth 100000 in
set_option maxHeartbeats 2000000 in
theorem decided_any (w : World) {a_d : Option Addr} {n_d c_d : Nat} {ds : List DQ} (h_d : RdD w a_d n_d c_d ds) (b : Int) : Calls Try.prog 58 #[.slice a_d n_d c_d, .int .i64 b] w (fun e w' => e = .returned (.tuple #[.bool (yesD (findD ds b)), .bool (findD ds b).isSome]) ∧ w = w') := by
  have hn := h_d.lt
  have HL := Lib.hid h_d.len
  obtain ⟨r, hr⟩ : ∃ r, findD ds b = r := ⟨_, rfl⟩
  rw [hr]
  have HR := Lib.hid hr
  clear hr
  go_enter Try.func58, Try.ntmps58
  go_wp2_with fail
  go_loop [6] (fun j => ∃ i : Nat, i ≤ n_d ∧ j = .int .i64 (i : Nat) ∧ Hid (∀ k, k < i → ¬ (dth ds k).bx = b)) (fun j => n_d - (intOf j).toNat)
  case atStart => exact ⟨0, by omega, rfl, Lib.hid fun k hk => absurd hk (by omega)⟩
  case round =>
    obtain ⟨i, hi, rfl, hS⟩ := hrel
    by_cases hlt : i < n_d
    case pos =>
      obtain ⟨bb, off, rfl, hcc⟩ := h_d.addr (by omega)
      obtain ⟨k0, k1⟩ := hcc i hlt
      clear hcc
      obtain ⟨d, hd⟩ : ∃ d, dth ds i = d := ⟨_, rfl⟩
      rw [hd] at k0 k1
      have HD := Lib.hid hd
      clear hd
      by_cases e : d.bx = b
      case pos =>
        have HF := Lib.hid (show r = some d by rw [← HR.out, ← HD.out]; exact findD_at (by rw [HL.out]; exact hlt) (by rw [HD.out]; exact e) hS.out)
        have e1 : (d.bx == b) = true := by simpa using e
        clear e
        go_wp2_with fail
        go_ret2
        exact ⟨by rw [HF.out]; simp [yesD], rfl⟩
      case neg =>
        have e1 : (d.bx == b) = false := by simpa using e
        have HE := Lib.hid e
        clear e
        go_wp2_with fail
        go_round
        case rel => exact ⟨i + 1, by omega, by go_num, Lib.hid fun k hk => by
                      by_cases hki : k < i
                      · exact hS.out k hki
                      · obtain rfl : k = i := by omega
                        intro e; exact HE.out (by rw [← HD.out]; exact e)⟩
        case measure => simp [intOf]; omega
    case neg =>
      obtain rfl : n_d = i := by omega
      have HF := Lib.hid (fun _ : Unit => (show r = none by rw [← HR.out]; exact findD_none (by rw [HL.out]; exact hS.out)))
      go_wp2_with fail
      go_ret2
      exact ⟨by rw [HF.out ()]; simp [yesD], rfl⟩

/-- The marked boxes, and those in doubt. -/
def RetM (w : World) (n : Nat) (mk : List Bool) (dt : List Int) : Ending → World → Prop := fun e w' =>
  ∃ a c b m d, e = .returned (.tuple #[.slice a n c, .slice b m d]) ∧ OwB w.heap.size w' a n c mk ∧ OwI w.heap.size w' b m d dt ∧ Below w.heap.size w w'

set_option maxRecDepth 100000 in
set_option maxHeartbeats 4000000 in
theorem Marked_any (w : World) (p : PQ) (pw : PW p) {a_x : Option Addr} {n_x c_x : Nat} {xs : List Nat} (h_x : Rd .u8 w a_x n_x c_x xs) {a_d : Option Addr} {n_d c_d : Nat} {ds : List DQ} (h_d : RdD w a_d n_d c_d ds) (hn : n_x ≤ 1000) : Calls Try.prog 40 #[.agg (polc p), .agg #[.slice a_x n_x c_x], .slice a_d n_d c_d] w (RetM w n_x (markL p xs ds n_x) (dbtL p xs ds n_x)) := by
  have HX := Lib.hid h_x.len
  obtain ⟨p1, p2, p3, p4⟩ := pw
  have PWW := Lib.hid (⟨p1, p2, p3, p4⟩ : PW p)
  have B0 : Below w.heap.size w w := Below.refl _ _
  have h_x_0 := h_x
  have h_d_0 := h_d
  go_enter Try.func40, Try.ntmps40
  have hb := below_al w (.cells (polc p) 48)
  have B1 := B0.trans (hb.mono B0.size)
  have h_x_1 := h_x_0.below hb
  have h_d_1 := h_d_0.below hb
  clear hb B0 h_x_0 h_d_0
  have h_p_1 := PRow.new 48 w (polc p)
  have hb := below_al (w.alloc (.cells (polc p) 48)) (.cells #[.slice a_x n_x c_x] 27)
  have B2 := B1.trans (hb.mono B1.size)
  have h_x_2 := h_x_1.below hb
  have h_d_2 := h_d_1.below hb
  have h_p_2 := h_p_1.later hb
  clear hb B1 h_x_1 h_d_1 h_p_1
  have h_y_2 := PRow.new 27 (w.alloc (.cells (polc p) 48)) #[.slice a_x n_x c_x]
  simp only [World.size_alloc] at h_y_2
  go_wp2_with fail
  generalize ((w.alloc (.cells (polc p) 48)).alloc (.cells #[.slice a_x n_x c_x] 27)) = w2 at *
  have HP := Lib.hid h_p_2
  have HY := Lib.hid h_y_2
  have HXX := Lib.hid h_x_2
  have HDD := Lib.hid h_d_2
  have HB0 := Lib.hid B2
  go_loopw [8, 9, 10] (fun s8 s9 jv wr => ∃ (i : Nat) (a8 : Option Addr) (c8 : Nat) (a9 : Option Addr) (n9 c9 : Nat), i ≤ n_x ∧ jv = .int .i64 (i : Nat) ∧ s8 = .slice a8 i c8 ∧ s9 = .slice a9 n9 c9 ∧ Below w2.heap.size w2 wr ∧ OwB w2.heap.size wr a8 i c8 (markL p xs ds i) ∧ OwI w2.heap.size wr a9 n9 c9 (dbtL p xs ds i)) (fun _ _ jv _ => n_x - (intOf jv).toNat)
  case atStart => exact ⟨0, none, 0, none, 0, 0, Nat.zero_le _, rfl, rfl, rfl, Below.refl _ _, OwG.nil _ _ _ _ _, OwG.nil _ _ _ _ _⟩
  case round =>
    rename World => wr
    obtain ⟨i, a8, c8, a9, n9, c9, hi, rfl, rfl, rfl, BT, ho8, ho9⟩ := hrel
    have hn9 : n9 ≤ 1000 := by rw [← ho9.len]; exact Nat.le_trans (dbtL_le _ _ _ _) (by omega)
    by_cases hlt : i < n_x
    case neg =>
      obtain rfl : n_x = i := by omega
      have k_y := (HY.out.later BT).cell 0 _ rfl
      have HO8 := Lib.hid (ho8.base_le HB0.out.size)
      have HO9 := Lib.hid (ho9.base_le HB0.out.size)
      have HBE := Lib.hid (HB0.out.trans (BT.mono HB0.out.size))
      clear ho8 ho9 BT
      go_wp2_with fail
      go_ret2
      exact ⟨_, _, _, _, _, rfl, HO8.out, HO9.out, HBE.out⟩
    case pos =>
      have B300 := BT
      have h_p_300 := HP.out.later BT
      have h_y_300 := HY.out.later BT
      have h_d_300 := HDD.out.below BT
      have h_e_300 := ho8
      have h_f_300 := ho9
      obtain ⟨bx, ox, rfl, kx, hbx⟩ := (HXX.out.below BT).cell i hlt
      clear BT ho8 ho9
      obtain ⟨x, hx⟩ : ∃ x, nth xs i = x := ⟨_, rfl⟩
      rw [hx] at kx hbx
      replace hbx : x < 256 := hbx
      have HXI := Lib.hid hx
      clear hx
      obtain ⟨fd, hfd⟩ : ∃ fd, findD ds ((i : Nat) : Int) = fd := ⟨_, rfl⟩
      have HFD := Lib.hid hfd
      clear hfd
      obtain ⟨db, hdb⟩ : ∃ db, doubtB p x = db := ⟨_, rfl⟩
      have HDB := Lib.hid hdb
      clear hdb
      have k_y0 := h_y_300.cell 0 _ rfl
      have k_y := k_y0
      clear k_y0
      have k_p0 := h_p_300.cell 0 _ rfl
      have k_p1 := h_p_300.cell 1 _ rfl
      have k_p2 := h_p_300.cell 2 _ rfl
      go_upto_region 6 with fail
      have hb := (Below.refl wr.heap.size wr).drew
      replace k_y := cell_below hb k_y
      replace kx := cell_below hb kx
      replace k_p0 := cell_below hb k_p0
      replace k_p1 := cell_below hb k_p1
      replace k_p2 := cell_below hb k_p2
      have B301 := B300.trans (hb.mono B300.size)
      have h_p_301 := h_p_300.later hb
      have h_y_301 := h_y_300.later hb
      have h_d_301 := h_d_300.below hb
      have h_e_301 := h_e_300.below hb
      have h_f_301 := h_f_300.below hb
      clear hb B300 h_p_300 h_y_300 h_d_300 h_e_300 h_f_300
      refine wp_region_held_drew (S := (fun w' => w'.cell? ⟨w.heap.size + 1, 0, none⟩ = some (.slice (some ⟨bx, ox, none⟩) n_x c_x) ∧ w'.cell? ⟨bx, ox + i, none⟩ = some (.int .u8 ((x : Nat) : Int)) ∧ w'.cell? ⟨w.heap.size, 0, none⟩ = some (.int .u8 ((p.low : Nat) : Int)) ∧ w'.cell? ⟨w.heap.size, 1, none⟩ = some (.int .u8 ((p.high : Nat) : Int)) ∧ w'.cell? ⟨w.heap.size, 2, none⟩ = some (.int .i64 p.skips) ∧ True)) (by kernel_rfl) ?_ (fun hHeld => ?_)
      · exact ⟨k_y, kx, k_p0, k_p1, k_p2, trivial⟩
      generalize wr.drew = w301 at *
      refine wpAnyH_take (i := 0) (oi := ?oir1_0) (v := ?vr1_0) ?hir1_0 (by kernel_rfl) (by kernel_rfl) (by kernel_rfl) ?hqr1_0 ?hyr1_0 (by assumption) ?restr1_0
      case hir1_0 => simp only [List.getElem?_toArray, List.getElem?_cons_succ, List.getElem?_cons_zero]; rfl
      case hqr1_0 => exact fun _ _ _ h => h
      case hyr1_0 => (refine Or.inl ⟨by rfl, ?_⟩; intro w hSw; (try dsimp only at hSw); go_simp; all_goals with_reducible rfl)
      try simp only [Act.put, List.setIfInBounds_toArray, List.set_cons_zero, List.set_cons_succ]
      refine wpAnyH_take (i := 1) (oi := ?oir1_1) (v := ?vr1_1) ?hir1_1 (by kernel_rfl) (by kernel_rfl) (by kernel_rfl) ?hqr1_1 ?hyr1_1 (by assumption) ?restr1_1
      case hir1_1 => simp only [List.getElem?_toArray, List.getElem?_cons_succ, List.getElem?_cons_zero]; rfl
      case hqr1_1 => exact fun _ _ _ h => h
      case hyr1_1 => (refine Or.inl ⟨by rfl, ?_⟩; intro w hSw; (try dsimp only at hSw); go_simp; all_goals with_reducible rfl)
      try simp only [Act.put, List.setIfInBounds_toArray, List.set_cons_zero, List.set_cons_succ]
      refine wpAnyH_take (i := 2) (oi := ?oir1_2) (v := ?vr1_2) ?hir1_2 (by kernel_rfl) (by kernel_rfl) (by kernel_rfl) ?hqr1_2 ?hyr1_2 (by assumption) ?restr1_2
      case hir1_2 => simp only [List.getElem?_toArray, List.getElem?_cons_succ, List.getElem?_cons_zero]; rfl
      case hqr1_2 => exact fun _ _ _ h => h
      case hyr1_2 => (refine Or.inl ⟨by rfl, ?_⟩; intro w hSw; (try dsimp only at hSw); go_simp; all_goals with_reducible rfl)
      try simp only [Act.put, List.setIfInBounds_toArray, List.set_cons_zero, List.set_cons_succ]
      refine wpAnyH_take (i := 3) (oi := ?oir1_3) (v := ?vr1_3) ?hir1_3 (by kernel_rfl) (by kernel_rfl) (by kernel_rfl) ?hqr1_3 ?hyr1_3 (by assumption) ?restr1_3
      case hir1_3 => simp only [List.getElem?_toArray, List.getElem?_cons_succ, List.getElem?_cons_zero]; rfl
      case hqr1_3 => exact fun _ _ _ h => h
      case hyr1_3 => (refine Or.inl ⟨by rfl, ?_⟩; intro w hSw; (try dsimp only at hSw); go_simp; all_goals with_reducible rfl)
      try simp only [Act.put, List.setIfInBounds_toArray, List.set_cons_zero, List.set_cons_succ]
      refine wpAnyH_take (i := 4) (oi := ?oir1_4) (v := ?vr1_4) ?hir1_4 (by kernel_rfl) (by kernel_rfl) (by kernel_rfl) ?hqr1_4 ?hyr1_4 (by assumption) ?restr1_4
      case hir1_4 => simp only [List.getElem?_toArray, List.getElem?_cons_succ, List.getElem?_cons_zero]; rfl
      case hqr1_4 => exact fun _ _ _ h => h
      case hyr1_4 => (refine Or.inl ⟨by rfl, ?_⟩; intro w hSw; (try dsimp only at hSw); go_simp; all_goals with_reducible rfl)
      try simp only [Act.put, List.setIfInBounds_toArray, List.set_cons_zero, List.set_cons_succ]
      refine wpAnyH_take (i := 5) (oi := ?oir1_5) (v := ?vr1_5) ?hir1_5 (by kernel_rfl) (by kernel_rfl) (by kernel_rfl) ?hqr1_5 ?hyr1_5 (by assumption) ?restr1_5
      case hir1_5 => simp only [List.getElem?_toArray, List.getElem?_cons_succ, List.getElem?_cons_zero]; rfl
      case hqr1_5 => exact fun _ _ _ h => h
      case hyr1_5 => (refine Or.inl ⟨by rfl, ?_⟩; intro w hSw; (try dsimp only at hSw); go_simp; all_goals with_reducible rfl)
      try simp only [Act.put, List.setIfInBounds_toArray, List.set_cons_zero, List.set_cons_succ]
      refine wpAnyH_take (i := 6) (oi := ?oir1_6) (v := ?vr1_6) ?hir1_6 (by kernel_rfl) (by kernel_rfl) (by kernel_rfl) ?hqr1_6 ?hyr1_6 (by assumption) ?restr1_6
      case hir1_6 => simp only [List.getElem?_toArray, List.getElem?_cons_succ, List.getElem?_cons_zero]; rfl
      case hqr1_6 => exact fun _ _ _ h => h
      case hyr1_6 => (refine Or.inl ⟨by rfl, ?_⟩; intro w hSw; (try dsimp only at hSw); go_simp; all_goals with_reducible rfl)
      try simp only [Act.put, List.setIfInBounds_toArray, List.set_cons_zero, List.set_cons_succ]
      refine wpAnyH_take (i := 7) (oi := ?oir1_7) (v := ?vr1_7) ?hir1_7 (by kernel_rfl) (by kernel_rfl) (by kernel_rfl) ?hqr1_7 ?hyr1_7 (by assumption) ?restr1_7
      case hir1_7 => simp only [List.getElem?_toArray, List.getElem?_cons_succ, List.getElem?_cons_zero]; rfl
      case hqr1_7 => exact fun _ _ _ h => h
      case hyr1_7 => (refine Or.inl ⟨by rfl, ?_⟩; intro w hSw; (try dsimp only at hSw); go_simp; all_goals with_reducible rfl)
      try simp only [Act.put, List.setIfInBounds_toArray, List.set_cons_zero, List.set_cons_succ]
      refine wpAnyH_take (i := 8) (oi := ?oir1_8) (v := ?vr1_8) ?hir1_8 (by kernel_rfl) (by kernel_rfl) (by kernel_rfl) ?hqr1_8 ?hyr1_8 (by assumption) ?restr1_8
      case hir1_8 => simp only [List.getElem?_toArray, List.getElem?_cons_succ, List.getElem?_cons_zero]; rfl
      case hqr1_8 => exact fun _ _ _ h => h
      case hyr1_8 => (refine Or.inl ⟨by rfl, ?_⟩; intro w hSw; (try dsimp only at hSw); go_simp; all_goals with_reducible rfl)
      try simp only [Act.put, List.setIfInBounds_toArray, List.set_cons_zero, List.set_cons_succ]
      refine wpAnyH_done (by kernel_rfl) ?_ _
      clear hHeld
      go_upto_region 7 with fail
      have hb := (Below.refl w301.heap.size w301).drew
      replace k_y := cell_below hb k_y
      replace kx := cell_below hb kx
      replace k_p0 := cell_below hb k_p0
      replace k_p1 := cell_below hb k_p1
      replace k_p2 := cell_below hb k_p2
      have B302 := B301.trans (hb.mono B301.size)
      have h_p_302 := h_p_301.later hb
      have h_y_302 := h_y_301.later hb
      have h_d_302 := h_d_301.below hb
      have h_e_302 := h_e_301.below hb
      have h_f_302 := h_f_301.below hb
      clear hb B301 h_p_301 h_y_301 h_d_301 h_e_301 h_f_301
      refine wp_region_held_drew (S := (fun w' => w'.cell? ⟨w.heap.size + 1, 0, none⟩ = some (.slice (some ⟨bx, ox, none⟩) n_x c_x) ∧ w'.cell? ⟨bx, ox + i, none⟩ = some (.int .u8 ((x : Nat) : Int)) ∧ w'.cell? ⟨w.heap.size, 0, none⟩ = some (.int .u8 ((p.low : Nat) : Int)) ∧ w'.cell? ⟨w.heap.size, 1, none⟩ = some (.int .u8 ((p.high : Nat) : Int)) ∧ w'.cell? ⟨w.heap.size, 2, none⟩ = some (.int .i64 p.skips) ∧ True)) (by kernel_rfl) ?_ (fun hHeld => ?_)
      · exact ⟨k_y, kx, k_p0, k_p1, k_p2, trivial⟩
      generalize w301.drew = w302 at *
      refine wpAnyH_take (i := 0) (oi := ?oir2_0) (v := ?vr2_0) ?hir2_0 (by kernel_rfl) (by kernel_rfl) (by kernel_rfl) ?hqr2_0 ?hyr2_0 (by assumption) ?restr2_0
      case hir2_0 => simp only [List.getElem?_toArray, List.getElem?_cons_succ, List.getElem?_cons_zero]; rfl
      case hqr2_0 => exact fun _ _ _ h => h
      case hyr2_0 => (refine Or.inl ⟨by rfl, ?_⟩; intro w hSw; (try dsimp only at hSw); go_simp; all_goals with_reducible rfl)
      try simp only [Act.put, List.setIfInBounds_toArray, List.set_cons_zero, List.set_cons_succ]
      refine wpAnyH_take (i := 1) (oi := ?oir2_1) (v := ?vr2_1) ?hir2_1 (by kernel_rfl) (by kernel_rfl) (by kernel_rfl) ?hqr2_1 ?hyr2_1 (by assumption) ?restr2_1
      case hir2_1 => simp only [List.getElem?_toArray, List.getElem?_cons_succ, List.getElem?_cons_zero]; rfl
      case hqr2_1 => exact fun _ _ _ h => h
      case hyr2_1 => (refine Or.inl ⟨by rfl, ?_⟩; intro w hSw; (try dsimp only at hSw); go_simp; all_goals with_reducible rfl)
      try simp only [Act.put, List.setIfInBounds_toArray, List.set_cons_zero, List.set_cons_succ]
      refine wpAnyH_take (i := 2) (oi := ?oir2_2) (v := ?vr2_2) ?hir2_2 (by kernel_rfl) (by kernel_rfl) (by kernel_rfl) ?hqr2_2 ?hyr2_2 (by assumption) ?restr2_2
      case hir2_2 => simp only [List.getElem?_toArray, List.getElem?_cons_succ, List.getElem?_cons_zero]; rfl
      case hqr2_2 => exact fun _ _ _ h => h
      case hyr2_2 => (refine Or.inl ⟨by rfl, ?_⟩; intro w hSw; (try dsimp only at hSw); go_simp; all_goals with_reducible rfl)
      try simp only [Act.put, List.setIfInBounds_toArray, List.set_cons_zero, List.set_cons_succ]
      refine wpAnyH_take (i := 3) (oi := ?oir2_3) (v := ?vr2_3) ?hir2_3 (by kernel_rfl) (by kernel_rfl) (by kernel_rfl) ?hqr2_3 ?hyr2_3 (by assumption) ?restr2_3
      case hir2_3 => simp only [List.getElem?_toArray, List.getElem?_cons_succ, List.getElem?_cons_zero]; rfl
      case hqr2_3 => exact fun _ _ _ h => h
      case hyr2_3 => (refine Or.inl ⟨by rfl, ?_⟩; intro w hSw; (try dsimp only at hSw); go_simp; all_goals with_reducible rfl)
      try simp only [Act.put, List.setIfInBounds_toArray, List.set_cons_zero, List.set_cons_succ]
      refine wpAnyH_take (i := 4) (oi := ?oir2_4) (v := ?vr2_4) ?hir2_4 (by kernel_rfl) (by kernel_rfl) (by kernel_rfl) ?hqr2_4 ?hyr2_4 (by assumption) ?restr2_4
      case hir2_4 => simp only [List.getElem?_toArray, List.getElem?_cons_succ, List.getElem?_cons_zero]; rfl
      case hqr2_4 => exact fun _ _ _ h => h
      case hyr2_4 => (refine Or.inl ⟨by rfl, ?_⟩; intro w hSw; (try dsimp only at hSw); go_simp; all_goals with_reducible rfl)
      try simp only [Act.put, List.setIfInBounds_toArray, List.set_cons_zero, List.set_cons_succ]
      refine wpAnyH_take (i := 5) (oi := ?oir2_5) (v := ?vr2_5) ?hir2_5 (by kernel_rfl) (by kernel_rfl) (by kernel_rfl) ?hqr2_5 ?hyr2_5 (by assumption) ?restr2_5
      case hir2_5 => simp only [List.getElem?_toArray, List.getElem?_cons_succ, List.getElem?_cons_zero]; rfl
      case hqr2_5 => exact fun _ _ _ h => h
      case hyr2_5 => (refine Or.inl ⟨by rfl, ?_⟩; intro w hSw; (try dsimp only at hSw); go_simp; all_goals with_reducible rfl)
      try simp only [Act.put, List.setIfInBounds_toArray, List.set_cons_zero, List.set_cons_succ]
      refine wpAnyH_ready (rs := [6]) (by kernel_rfl) (by simp) ?_
      refine AllReadyH.cons (o := ?or3_6) ?hor3_6 (fun K hK => ?kr3_6) AllReadyH.nil
      case hor3_6 => simp only [List.getElem?_toArray, List.getElem?_cons_succ, List.getElem?_cons_zero]; rfl
      go_simp
      have c := Doubt_any w302 p PWW.out x hbx
      rw [HDB.out] at c
      refine c.mono ?_
      rintro e w303 ⟨rfl, hb⟩
      clear c
      replace k_y := cell_below hb k_y
      replace kx := cell_below hb kx
      replace k_p0 := cell_below hb k_p0
      replace k_p1 := cell_below hb k_p1
      replace k_p2 := cell_below hb k_p2
      have B303 := B302.trans (hb.mono B302.size)
      have h_p_303 := h_p_302.later hb
      have h_y_303 := h_y_302.later hb
      have h_d_303 := h_d_302.below hb
      have h_e_303 := h_e_302.below hb
      have h_f_303 := h_f_302.below hb
      clear hb B302 h_p_302 h_y_302 h_d_302 h_e_302 h_f_302
      go_wp2_with fail
      clear hHeld
      refine hK.out _ _ ?_ (fun hHeld => ?_)
      · exact ⟨k_y, kx, k_p0, k_p1, k_p2, trivial⟩
      clear hK K
      try simp only [Act.put, List.setIfInBounds_toArray, List.set_cons_zero, List.set_cons_succ]
      refine wpAnyH_done (by kernel_rfl) ?_ _
      clear hHeld k_y kx k_p0 k_p1 k_p2
      cases db
      case false =>
        obtain ⟨mk, hmk⟩ : ∃ mk, decide (p.high ≤ x) = mk := ⟨_, rfl⟩
        have HMK := Lib.hid (show markB p xs ds i = mk by unfold markB; rw [HXI.out, HDB.out, if_neg (by decide)]; exact hmk)
        have HDT := Lib.hid (show (if dbtB p xs ds i = true then [((i : Nat) : Int)] else []) = [] by unfold dbtB; rw [HXI.out, HDB.out]; rfl)
        have BS := Lib.hid B303
        try rw [hmk]
        clear hmk
        have hal := below_al w303 (.cells #[.bool mk] 4)
        have hoe := h_e_303.below hal
        have hof := h_f_303.below hal
        go_wp2_with (at_builtin; refine wpList_app rfl _ _ 78 rfl etB w2.heap.size rfl hoe.own rfl rfl (sl_alone w303 _ 4 rfl) (by unfold maxLen; omega) (by omega) (Nat.le_trans BS.out.size (by simp)) ?_; intro a' c' wn hown hg hbn; refine Hid.out ?_)
        have ho8n : OwB w2.heap.size wn a' (i + 1) c' (markL p xs ds (i + 1)) := by
          rw [markL_succ, HMK.out]
          exact hoe.snoc trivial rfl hown
        have ho9n : OwI w2.heap.size wn a9 n9 c9 (dbtL p xs ds (i + 1)) := by
          rw [dbtL_succ, HDT.out]
          exact ⟨by simpa using hof.len, by simpa using own_grown hof.own hoe.own (by decide) hg, by simpa using hof.bd⟩
        have hbe := B303.trans ((hal.mono B303.size).trans hbn)
        clear hown hg hbn hoe hof hal
        refine Lib.hid ?_
        go_wp2_with fail
        go_roundw
        case rel => exact ⟨i + 1, _, _, _, _, _, by omega, by go_num, rfl, rfl, hbe, ho8n, ho9n⟩
        case measure => simp [intOf]; omega
      case true =>
        go_wp2_with fail
        refine (decided_any _ h_d_303 ((i : Nat) : Int)).mono ?_
        rintro e w9 ⟨rfl, hw9⟩
        subst hw9
        rw [HFD.out]
        cases fd with
        | some d =>
          have HMK := Lib.hid (show markB p xs ds i = d.yes by unfold markB; rw [HXI.out, HDB.out, if_pos rfl, HFD.out]; rfl)
          have HDT := Lib.hid (show (if dbtB p xs ds i = true then [((i : Nat) : Int)] else []) = [] by unfold dbtB; rw [HXI.out, HDB.out, HFD.out]; rfl)
          have BS := Lib.hid B303
          obtain ⟨mk, hmk⟩ : ∃ mk, d.yes = mk := ⟨_, rfl⟩
          rw [hmk] at HMK
          dsimp only [Option.isSome, yesD]
          rw [hmk]
          clear hmk
          have hal := below_al w303 (.cells #[.bool mk] 4)
          have hoe := h_e_303.below hal
          have hof := h_f_303.below hal
          go_wp2_with (at_builtin; refine wpList_app rfl _ _ 78 rfl etB w2.heap.size rfl hoe.own rfl rfl (sl_alone w303 _ 4 rfl) (by unfold maxLen; omega) (by omega) (Nat.le_trans BS.out.size (by simp)) ?_; intro a' c' wn hown hg hbn; refine Hid.out ?_)
          have ho8n : OwB w2.heap.size wn a' (i + 1) c' (markL p xs ds (i + 1)) := by
            rw [markL_succ, HMK.out]
            exact hoe.snoc trivial rfl hown
          have ho9n : OwI w2.heap.size wn a9 n9 c9 (dbtL p xs ds (i + 1)) := by
            rw [dbtL_succ, HDT.out]
            exact ⟨by simpa using hof.len, by simpa using own_grown hof.own hoe.own (by decide) hg, by simpa using hof.bd⟩
          have hbe := B303.trans ((hal.mono B303.size).trans hbn)
          clear hown hg hbn hoe hof hal
          refine Lib.hid ?_
          go_wp2_with fail
          go_roundw
          case rel => exact ⟨i + 1, _, _, _, _, _, by omega, by go_num, rfl, rfl, hbe, ho8n, ho9n⟩
          case measure => simp [intOf]; omega
        | none =>
          have HMK := Lib.hid (show markB p xs ds i = false by unfold markB; rw [HXI.out, HDB.out, if_pos rfl, HFD.out]; rfl)
          have HDT := Lib.hid (show (if dbtB p xs ds i = true then [((i : Nat) : Int)] else []) = [] ++ [((i : Nat) : Int)] by unfold dbtB; rw [HXI.out, HDB.out, HFD.out]; rfl)
          have BS := Lib.hid B303
          dsimp only [Option.isSome, yesD]
          have hal := below_al w303 (.cells #[.int .i64 ((i : Nat) : Int)] 3)
          have hoe := h_e_303.below hal
          have hof := h_f_303.below hal
          go_wp2_with (at_builtin; refine wpList_app rfl _ _ 37 rfl etI w2.heap.size rfl hof.own rfl rfl (sl_alone w303 _ 3 rfl) (by unfold maxLen; omega) (by omega) (Nat.le_trans BS.out.size (by simp)) ?_; intro af cf wf hown hg hbn; refine Hid.out ?_)
          have h_e_304 : OwB w2.heap.size wf a8 i c8 (markL p xs ds i) := ⟨hoe.len, own_grown hoe.own hof.own (by decide) hg, hoe.bd⟩
          have h_f_304 : OwI w2.heap.size wf af (n9 + 1) cf (dbtL p xs ds i ++ [((i : Nat) : Int)]) := hof.snoc ⟨by omega, by omega⟩ rfl hown
          have B304 := B303.trans ((hal.mono B303.size).trans hbn)
          clear hown hg hbn hoe hof hal
          replace HDT := Lib.hid (show (if dbtB p xs ds i = true then [((i : Nat) : Int)] else []) = [((i : Nat) : Int)] from HDT.out)
          replace BS := Lib.hid B304
          refine Lib.hid ?_
          have hal := below_al wf (.cells #[.bool false] 4)
          have hoe := h_e_304.below hal
          have hof := h_f_304.below hal
          go_wp2_with (at_builtin; refine wpList_app rfl _ _ 78 rfl etB w2.heap.size rfl hoe.own rfl rfl (sl_alone wf _ 4 rfl) (by unfold maxLen; omega) (by omega) (Nat.le_trans BS.out.size (by simp)) ?_; intro a' c' wn hown hg hbn; refine Hid.out ?_)
          have ho8n : OwB w2.heap.size wn a' (i + 1) c' (markL p xs ds (i + 1)) := by
            rw [markL_succ, HMK.out]
            exact hoe.snoc trivial rfl hown
          have ho9n : OwI w2.heap.size wn af (n9 + 1) cf (dbtL p xs ds (i + 1)) := by
            rw [dbtL_succ, HDT.out]
            exact ⟨hof.len, own_grown hof.own hoe.own (by decide) hg, hof.bd⟩
          have hbe := B304.trans ((hal.mono B304.size).trans hbn)
          clear hown hg hbn hoe hof hal
          refine Lib.hid ?_
          go_wp2_with fail
          go_roundw
          case rel => exact ⟨i + 1, _, _, _, _, _, by omega, by go_num, rfl, rfl, hbe, ho8n, ho9n⟩
          case measure => simp [intOf]; omega

end Go.Proofs.Ytlfempfhohejiaa
