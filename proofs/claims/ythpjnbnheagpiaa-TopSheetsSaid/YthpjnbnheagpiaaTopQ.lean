/- Records: fits, may, place, Check of valid ones. Conditions: valid records of at most three batches. Printed by gen_topq.py. -/
import Derived.Test.YthpjnbnheagpiaaTopM
import Derived.Test.YthpjnbnheagpiaaTopP
namespace Go.Proofs.Ythpjnbnheagpiaa
open Go.RowKit Go.Suf
set_option linter.unusedVariables false
set_option linter.unusedSimpArgs false

theorem atBat : AT Try.prog 79 2 := ⟨⟨_, Try.underlying79, rfl⟩, by kernel_rfl⟩
theorem atRwt : AT Try.prog 81 4 := ⟨⟨_, Try.underlying81, rfl⟩, by kernel_rfl⟩
theorem bat_one (s : ByteArray) (a : Option Addr) (n c : Nat) : ∀ u ∈ (#[.string s, .slice a n c] : Array Value).toList, u.oneCell' = true := by
  intro u hu
  simp at hu
  rcases hu with rfl | rfl <;> rfl
theorem rwt_one (s : ByteArray) (a : Option Addr) (n c : Nat) (i k : Int) : ∀ u ∈ (#[.string s, .slice a n c, .int .i64 i, .int .u8 k] : Array Value).toList, u.oneCell' = true := by
  intro u hu
  simp at hu
  rcases hu with rfl | rfl | rfl | rfl <;> rfl
/-- A valid record. -/
structure RecW (kd : Nat) (cn : Int) (l : List CQ) : Prop where
  len : l.length ≤ 3
  ok : ∀ x ∈ l, oddS x.nm = false ∧ x.bs.length ≤ 64 ∧ FitL kd cn x.bs
  dist : (l.map CQ.nm).Nodup
def cth (l : List CQ) (i : Nat) : CQ := l.getD i ⟨⟨#[]⟩, []⟩
theorem cth_of {l : List CQ} {i : Nat} {x : CQ} (h : l[i]? = some x) : cth l i = x := by simp [cth, h]
/-- The place of a name. -/
def plcI (l : List CQ) (name : ByteArray) : Int := fstI (fun i => eqS (cth l i).nm name) l.length

set_option maxRecDepth 100000 in
set_option maxHeartbeats 2000000 in
theorem fits_any2 (w : World) (nm : ByteArray) {a_b : Option Addr} {n_b c_b : Nat} (cn : Int) (kd : Nat) (hkd : kd < 256) {a_x : Option Addr} {n_x c_x : Nat} {ms : List Int} (h_x : RdI w a_x n_x c_x ms) (hbf : ballC kd ms cn = 0) : Calls Try.prog 26 #[.agg #[.string nm, .slice a_b n_b c_b, .int .i64 cn, .int .u8 ((kd : Nat) : Int)], .agg #[.int .u8 ((kd : Nat) : Int), .slice a_x n_x c_x]] w (fun e w' => e = .returned (.bool true) ∧ Below w.heap.size w w') := by
  have HBF := Lib.hid hbf
  clear hbf
  have e0 : (((kd : Nat) : Int) == ((kd : Nat) : Int)) = true := by simp
  have B0 : Below w.heap.size w w := Below.refl _ _
  have h_x_0 := h_x
  go_enter Try.func26, Try.ntmps26
  have hb := below_al w (.cells #[.string nm, .slice a_b n_b c_b, .int .i64 cn, .int .u8 ((kd : Nat) : Int)] 81)
  have B1 := B0.trans (hb.mono B0.size)
  have h_x_1 := h_x_0.below hb
  clear hb B0 h_x_0
  have h_r_1 := PRow.new 81 w #[.string nm, .slice a_b n_b c_b, .int .i64 cn, .int .u8 ((kd : Nat) : Int)]
  have hb := below_al (w.alloc (.cells #[.string nm, .slice a_b n_b c_b, .int .i64 cn, .int .u8 ((kd : Nat) : Int)] 81)) (.cells #[.int .u8 ((kd : Nat) : Int), .slice a_x n_x c_x] 37)
  have B2 := B1.trans (hb.mono B1.size)
  have h_x_2 := h_x_1.below hb
  have h_r_2 := h_r_1.later hb
  clear hb B1 h_x_1 h_r_1
  have h_b_2 := PRow.new 37 (w.alloc (.cells #[.string nm, .slice a_b n_b c_b, .int .i64 cn, .int .u8 ((kd : Nat) : Int)] 81)) #[.int .u8 ((kd : Nat) : Int), .slice a_x n_x c_x]
  simp only [World.size_alloc] at h_b_2
  have k_r_0 := h_r_2.cell 0 _ rfl
  have k_r_1 := h_r_2.cell 1 _ rfl
  have k_r_2 := h_r_2.cell 2 _ rfl
  have k_r_3 := h_r_2.cell 3 _ rfl
  have k_b_0 := h_b_2.cell 0 _ rfl
  have k_b_1 := h_b_2.cell 1 _ rfl
  go_wp2_with fail
  clear k_r_0 k_r_1 k_r_2 k_r_3 k_b_0 k_b_1
  generalize ((w.alloc (.cells #[.string nm, .slice a_b n_b c_b, .int .i64 cn, .int .u8 ((kd : Nat) : Int)] 81)).alloc (.cells #[.int .u8 ((kd : Nat) : Int), .slice a_x n_x c_x] 37)) = w2 at *
  have c := ballCheck_any w2 kd hkd h_x_2 cn
  rw [HBF.out] at c
  refine c.mono ?_
  rintro e w3 ⟨rfl, hb⟩
  clear c
  have B3 := B2.trans (hb.mono B2.size)
  have h_x_3 := h_x_2.below hb
  have h_r_3 := h_r_2.later hb
  have h_b_3 := h_b_2.later hb
  clear hb B2 h_x_2 h_r_2 h_b_2
  go_wp2_with fail
  go_ret
  exact ⟨rfl, B3⟩

set_option maxRecDepth 100000 in
set_option maxHeartbeats 2000000 in
theorem mayOne_any (w : World) (nm : ByteArray) {a_b : Option Addr} {n_b c_b : Nat} (cn : Int) (kd : Nat) (hkd : kd < 256) {w0 : World} {gr : Nat} (R : PRow 81 w0 w gr #[.string nm, .slice a_b n_b c_b, .int .i64 cn, .int .u8 ((kd : Nat) : Int)]) {a_x : Option Addr} {n_x c_x : Nat} {ms : List Int} (h_x : RdI w a_x n_x c_x ms) (hbf : ballC kd ms cn = 0) : Calls Try.prog 52 #[.agg #[.int .u8 ((kd : Nat) : Int), .slice a_x n_x c_x], .pointer (some ⟨gr, 0, none⟩)] w (fun e w' => e = .returned (.bool false) ∧ Below w.heap.size w w') := by
  have HBF := Lib.hid hbf
  clear hbf
  have HRB := Lib.hid R.below
  have B0 : Below w.heap.size w w := Below.refl _ _
  have h_x_0 := h_x
  have h_r_0 := R
  go_enter Try.func52, Try.ntmps52
  have hb := below_al w (.cells #[.int .u8 ((kd : Nat) : Int), .slice a_x n_x c_x] 37)
  have B1 := B0.trans (hb.mono B0.size)
  have h_x_1 := h_x_0.below hb
  have h_r_1 := h_r_0.later hb
  clear hb B0 h_x_0 h_r_0
  have h_b_1 := PRow.new 37 w #[.int .u8 ((kd : Nat) : Int), .slice a_x n_x c_x]
  have k_r_0 := h_r_1.cell 0 _ rfl
  have k_r_1 := h_r_1.cell 1 _ rfl
  have k_r_2 := h_r_1.cell 2 _ rfl
  have k_r_3 := h_r_1.cell 3 _ rfl
  have k_b_0 := h_b_1.cell 0 _ rfl
  have k_b_1 := h_b_1.cell 1 _ rfl
  go_wp2_with fail
  clear k_r_0 k_r_1 k_r_2 k_r_3 k_b_0 k_b_1
  generalize (w.alloc (.cells #[.int .u8 ((kd : Nat) : Int), .slice a_x n_x c_x] 37)) = w1 at *
  have c := fits_any2 w1 nm (a_b := a_b) (n_b := n_b) (c_b := c_b) cn kd hkd h_x_1 HBF.out
  refine c.mono ?_
  rintro e w2 ⟨rfl, hb⟩
  clear c
  have B2 := B1.trans (hb.mono B1.size)
  have h_x_2 := h_x_1.below hb
  have h_r_2 := h_r_1.later hb
  have h_b_2 := h_b_1.later hb
  clear hb B1 h_x_1 h_r_1 h_b_1
  go_wp2_with fail
  go_ret
  exact ⟨rfl, B2⟩

set_option maxRecDepth 100000 in
set_option maxHeartbeats 4000000 in
theorem indexBal_any (w : World) (nm : ByteArray) {a_b : Option Addr} {n_b c_b : Nat} (cn : Int) (kd : Nat) (hkd : kd < 256) {w0 : World} {gr : Nat} (R : PRow 81 w0 w gr #[.string nm, .slice a_b n_b c_b, .int .i64 cn, .int .u8 ((kd : Nat) : Int)]) {a_q : Option Addr} {n_q c_q : Nat} {bs : List BQ} (h_q : RdQ w a_q n_q c_q bs) (hfit : FitL kd cn bs) : Calls Try.prog 74 #[.slice a_q n_q c_q, .func (.func 52) #[] #[.pointer (some ⟨gr, 0, none⟩)]] w (fun e w' => e = .returned (.int .i64 (-1)) ∧ Below w.heap.size w w') := by
  have HL := Lib.hid h_q.len
  have hn := h_q.lt
  have HRQ := Lib.hid h_q
  have HFT := Lib.hid hfit
  have HR := Lib.hid R
  clear h_q hfit R
  go_enter Try.func74, Try.ntmps74
  go_wp2_with fail
  go_loopw [8] (fun j wr => ∃ i : Nat, i ≤ n_q ∧ j = .int .i64 (i : Nat) ∧ Below w.heap.size w wr) (fun j _ => n_q - (intOf j).toNat)
  case atStart => exact ⟨0, Nat.zero_le _, rfl, Below.refl _ _⟩
  case round =>
    rename World => wr
    obtain ⟨i, hi, rfl, hb⟩ := hrel
    by_cases hlt : i < n_q
    case neg =>
      obtain rfl : n_q = i := by omega
      go_wp2_with fail
      go_ret
      exact ⟨rfl, hb⟩
    obtain ⟨x, hx⟩ : ∃ x, bs[i]? = some x := ⟨_, List.getElem?_eq_getElem (by rw [HL.out]; exact hlt)⟩
    obtain ⟨hkx, hbx⟩ := HFT.out x (List.mem_of_getElem? hx)
    obtain ⟨bb, oo, rfl, hcc⟩ := HRQ.out.addr (by omega)
    obtain ⟨u1, v1, t0, t1, rfl, -, a_m, n_m, c_m, rfl, h_m⟩ := hcc i x hx
    rw [hkx] at t0
    have T0 := cell_below hb t0
    have T1 := cell_below hb t1
    have HBX := Lib.hid hbx
    have HXM := Lib.hid (h_m.below hb)
    have R1 := Lib.hid (HR.out.later hb)
    clear hcc t0 t1 hbx h_m hx hkx
    go_wp2_with fail
    refine (mayOne_any wr nm cn kd hkd R1.out HXM.out HBX.out).mono ?_
    rintro e wb ⟨rfl, hb2⟩
    clear T0 T1 R1 HXM
    have hb3 := hb.trans (hb2.mono hb.size)
    clear hb hb2
    go_wp2_with fail
    go_roundw
    case rel => exact ⟨i + 1, by omega, by go_num, hb3⟩
    case measure => simp [intOf]; omega

set_option maxRecDepth 100000 in
set_option maxHeartbeats 2000000 in
theorem containsBal_any (w : World) (nm : ByteArray) {a_b : Option Addr} {n_b c_b : Nat} (cn : Int) (kd : Nat) (hkd : kd < 256) {w0 : World} {gr : Nat} (R : PRow 81 w0 w gr #[.string nm, .slice a_b n_b c_b, .int .i64 cn, .int .u8 ((kd : Nat) : Int)]) {a_q : Option Addr} {n_q c_q : Nat} {bs : List BQ} (h_q : RdQ w a_q n_q c_q bs) (hfit : FitL kd cn bs) : Calls Try.prog 51 #[.slice a_q n_q c_q, .func (.func 52) #[] #[.pointer (some ⟨gr, 0, none⟩)]] w (fun e w' => e = .returned (.bool false) ∧ Below w.heap.size w w') := by
  have B0 : Below w.heap.size w w := Below.refl _ _
  go_enter Try.func51, Try.ntmps51
  go_wp2_with fail
  have c := indexBal_any w nm cn kd hkd R h_q hfit
  refine c.mono ?_
  rintro e w1 ⟨rfl, hb⟩
  clear c
  have B1 := B0.trans (hb.mono B0.size)
  clear hb B0
  go_wp2_with fail
  go_ret
  exact ⟨rfl, B1⟩

set_option maxRecDepth 100000 in
set_option maxHeartbeats 2000000 in
theorem mayRow_any (w : World) (nm : ByteArray) {a_b : Option Addr} {n_b c_b : Nat} (cn : Int) (kd : Nat) (hkd : kd < 256) {bs : List BQ} (h_b : RdQ w a_b n_b c_b bs) (hod : oddS nm = false) (hfit : FitL kd cn bs) : Calls Try.prog 25 #[.agg #[.string nm, .slice a_b n_b c_b, .int .i64 cn, .int .u8 ((kd : Nat) : Int)]] w (fun e w' => e = .returned (.bool true) ∧ Below w.heap.size w w') := by
  have HOD := Lib.hid hod
  have HFT := Lib.hid hfit
  clear hod hfit
  have B0 : Below w.heap.size w w := Below.refl _ _
  have h_b_0 := h_b
  go_enter Try.func25, Try.ntmps25
  have hb := below_al w (.cells #[.string nm, .slice a_b n_b c_b, .int .i64 cn, .int .u8 ((kd : Nat) : Int)] 81)
  have B1 := B0.trans (hb.mono B0.size)
  have h_b_1 := h_b_0.below balE_lasts hb
  clear hb B0 h_b_0
  have h_r_1 := PRow.new 81 w #[.string nm, .slice a_b n_b c_b, .int .i64 cn, .int .u8 ((kd : Nat) : Int)]
  have k_r_0 := h_r_1.cell 0 _ rfl
  have k_r_1 := h_r_1.cell 1 _ rfl
  have k_r_2 := h_r_1.cell 2 _ rfl
  have k_r_3 := h_r_1.cell 3 _ rfl
  go_wp2_with fail
  clear k_r_0 k_r_1 k_r_2 k_r_3
  generalize (w.alloc (.cells #[.string nm, .slice a_b n_b c_b, .int .i64 cn, .int .u8 ((kd : Nat) : Int)] 81)) = w1 at *
  have c := named_any w1 nm
  rw [HOD.out] at c
  rw [show (!false) = true from rfl] at c
  refine c.mono ?_
  rintro e w2 ⟨rfl, hb⟩
  clear c
  have B2 := B1.trans (hb.mono B1.size)
  have h_b_2 := h_b_1.below balE_lasts hb
  have h_r_2 := h_r_1.later hb
  clear hb B1 h_b_1 h_r_1
  have k_r_0 := h_r_2.cell 0 _ rfl
  have k_r_1 := h_r_2.cell 1 _ rfl
  have k_r_2 := h_r_2.cell 2 _ rfl
  have k_r_3 := h_r_2.cell 3 _ rfl
  go_wp2_with fail
  clear k_r_0 k_r_1 k_r_2 k_r_3
  
  have c := containsBal_any w2 nm cn kd hkd h_r_2 h_b_2 HFT.out
  refine c.mono ?_
  rintro e w3 ⟨rfl, hb⟩
  clear c
  have B3 := B2.trans (hb.mono B2.size)
  have h_b_3 := h_b_2.below balE_lasts hb
  have h_r_3 := h_r_2.later hb
  clear hb B2 h_b_2 h_r_2
  go_wp2_with fail
  go_ret
  exact ⟨rfl, B3⟩

set_option maxRecDepth 100000 in
set_option maxHeartbeats 2000000 in
theorem placeOne_any (w : World) (nm : ByteArray) {a_b : Option Addr} {n_b c_b : Nat} {w0 : World} {gs : Nat} (name : ByteArray) (S : PRow 9 w0 w gs #[.string name]) : Calls Try.prog 54 #[.agg #[.string nm, .slice a_b n_b c_b], .pointer (some ⟨gs, 0, none⟩)] w (fun e w' => e = .returned (.bool (eqS nm name)) ∧ Below w.heap.size w w') := by
  obtain ⟨q, hq⟩ : ∃ q, eqS nm name = q := ⟨_, rfl⟩
  rw [hq]
  unfold eqS at hq
  have B0 : Below w.heap.size w w := Below.refl _ _
  have h_s_0 := S
  go_enter Try.func54, Try.ntmps54
  have hb := below_al w (.cells #[.string nm, .slice a_b n_b c_b] 79)
  have B1 := B0.trans (hb.mono B0.size)
  have h_s_1 := h_s_0.later hb
  clear hb B0 h_s_0
  have h_b_1 := PRow.new 79 w #[.string nm, .slice a_b n_b c_b]
  have k_s_0 := h_s_1.cell 0 _ rfl
  have k_b_0 := h_b_1.cell 0 _ rfl
  have k_b_1 := h_b_1.cell 1 _ rfl
  go_wp2_with fail
  clear k_s_0 k_b_0 k_b_1
  generalize (w.alloc (.cells #[.string nm, .slice a_b n_b c_b] 79)) = w1 at *
  go_ret
  exact ⟨rfl, B1⟩

set_option maxRecDepth 100000 in
set_option maxHeartbeats 2000000 in
theorem checkOne_any (w : World) (nm : ByteArray) {a_b : Option Addr} {n_b c_b : Nat} (hn : n_b ≤ 64) : Calls Try.prog 49 #[.agg #[.string nm, .slice a_b n_b c_b]] w (fun e w' => e = .returned (.bool false) ∧ Below w.heap.size w w') := by
  have B0 : Below w.heap.size w w := Below.refl _ _
  go_enter Try.func49, Try.ntmps49
  have hb := below_al w (.cells #[.string nm, .slice a_b n_b c_b] 79)
  have B1 := B0.trans (hb.mono B0.size)
  clear hb B0
  have h_b_1 := PRow.new 79 w #[.string nm, .slice a_b n_b c_b]
  have hd1 : decide (((n_b : Nat) : Int) > 64) = false := decide_eq_false (by omega)
  have hd2 : decide (64 < ((n_b : Nat) : Int)) = false := decide_eq_false (by omega)
  have k_b_0 := h_b_1.cell 0 _ rfl
  have k_b_1 := h_b_1.cell 1 _ rfl
  go_wp2_with fail
  clear k_b_0 k_b_1
  generalize (w.alloc (.cells #[.string nm, .slice a_b n_b c_b] 79)) = w1 at *
  go_ret
  exact ⟨rfl, B1⟩

set_option maxRecDepth 100000 in
set_option maxHeartbeats 4000000 in
theorem indexPlace_any (w : World) {a_l : Option Addr} {n_l c_l : Nat} {l : List CQ} (h_l : RdC w a_l n_l c_l l) {w0 : World} {gs : Nat} (name : ByteArray) (S : PRow 9 w0 w gs #[.string name]) : Calls Try.prog 53 #[.slice a_l n_l c_l, .func (.func 54) #[] #[.pointer (some ⟨gs, 0, none⟩)]] w (fun e w' => e = .returned (.int .i64 (plcI l name)) ∧ Below w.heap.size w w') := by
  have HL := Lib.hid h_l.len
  have hn := h_l.lt
  have HRC := Lib.hid h_l
  clear h_l
  have HS := Lib.hid S
  clear S
  obtain ⟨z, hz⟩ : ∃ z, plcI l name = z := ⟨_, rfl⟩
  rw [hz]
  have HZ := Lib.hid hz
  clear hz
  go_enter Try.func53, Try.ntmps53
  go_wp2_with fail
  go_loopw [8] (fun j wr => ∃ i : Nat, i ≤ n_l ∧ j = .int .i64 (i : Nat) ∧ Below w.heap.size w wr ∧ Hid (∀ k, k < i → eqS (cth l k).nm name = false)) (fun j _ => n_l - (intOf j).toNat)
  case atStart => exact ⟨0, Nat.zero_le _, rfl, Below.refl _ _, Lib.hid fun k hk => absurd hk (by omega)⟩
  case round =>
    rename World => wr
    obtain ⟨i, hi, rfl, hb, hS⟩ := hrel
    by_cases hlt : i < n_l
    case neg =>
      obtain rfl : n_l = i := by omega
      have HV := Lib.hid (show (-1 : Int) = z from by rw [← HZ.out]; unfold plcI; rw [HL.out, fstI_none hS.out])
      go_wp2_with fail
      go_ret
      exact ⟨by rw [← HV.out]; rfl, hb⟩
    obtain ⟨x, hx⟩ : ∃ x, l[i]? = some x := ⟨_, List.getElem?_eq_getElem (by rw [HL.out]; exact hlt)⟩
    have HXI := Lib.hid (cth_of hx)
    obtain ⟨bb, oo, rfl, hcc⟩ := HRC.out.addr (by omega)
    obtain ⟨u1, v1, t0, t1, rfl, a_m, n_m, c_m, rfl, -⟩ := hcc i x hx
    have T0 := cell_below hb t0
    have T1 := cell_below hb t1
    have S1 := Lib.hid (HS.out.later hb)
    clear hcc t0 t1 hx
    go_wp2_with fail
    refine (placeOne_any wr x.nm name S1.out).mono ?_
    rintro e wb ⟨rfl, hb2⟩
    have hb3 := hb.trans (hb2.mono hb.size)
    clear T0 T1 S1 hb hb2
    cases hq : eqS x.nm name with
    | true =>
      have HV := Lib.hid (show ((i : Nat) : Int) = z from by rw [← HZ.out]; unfold plcI; rw [HL.out, fstI_at hlt (by rw [HXI.out]; exact hq) hS.out])
      clear hq
      go_wp2_with fail
      go_ret
      exact ⟨by rw [← HV.out]; rfl, hb3⟩
    | false =>
      have HQ := Lib.hid hq
      clear hq
      go_wp2_with fail
      go_roundw
      case rel => exact ⟨i + 1, by omega, by go_num, hb3, Lib.hid fun k hk => by
        by_cases hki : k < i
        · exact hS.out k hki
        · obtain rfl : k = i := by omega
          rw [HXI.out]
          exact HQ.out⟩
      case measure => simp [intOf]; omega

set_option maxRecDepth 100000 in
set_option maxHeartbeats 4000000 in
theorem indexSize_any (w : World) {a_l : Option Addr} {n_l c_l : Nat} {l : List CQ} (h_l : RdC w a_l n_l c_l l) (hok : ∀ x ∈ l, x.bs.length ≤ 64) : Calls Try.prog 53 #[.slice a_l n_l c_l, .func (.func 49) #[] #[]] w (fun e w' => e = .returned (.int .i64 (-1)) ∧ Below w.heap.size w w') := by
  have HL := Lib.hid h_l.len
  have hn := h_l.lt
  have HRC := Lib.hid h_l
  clear h_l
  have HOK := Lib.hid hok
  clear hok
  go_enter Try.func53, Try.ntmps53
  go_wp2_with fail
  go_loopw [8] (fun j wr => ∃ i : Nat, i ≤ n_l ∧ j = .int .i64 (i : Nat) ∧ Below w.heap.size w wr) (fun j _ => n_l - (intOf j).toNat)
  case atStart => exact ⟨0, Nat.zero_le _, rfl, Below.refl _ _⟩
  case round =>
    rename World => wr
    obtain ⟨i, hi, rfl, hb⟩ := hrel
    by_cases hlt : i < n_l
    case neg =>
      obtain rfl : n_l = i := by omega
      go_wp2_with fail
      go_ret
      exact ⟨rfl, hb⟩
    obtain ⟨x, hx⟩ : ∃ x, l[i]? = some x := ⟨_, List.getElem?_eq_getElem (by rw [HL.out]; exact hlt)⟩
    have hx64 := HOK.out x (List.mem_of_getElem? hx)
    obtain ⟨bb, oo, rfl, hcc⟩ := HRC.out.addr (by omega)
    obtain ⟨u1, v1, t0, t1, rfl, a_m, n_m, c_m, rfl, h_m⟩ := hcc i x hx
    have T0 := cell_below hb t0
    have T1 := cell_below hb t1
    have h64 : n_m ≤ 64 := by rw [← h_m.len]; exact hx64
    clear hcc t0 t1 hx hx64 h_m
    go_wp2_with fail
    refine (checkOne_any wr x.nm h64).mono ?_
    rintro e wb ⟨rfl, hb2⟩
    have hb3 := hb.trans (hb2.mono hb.size)
    clear T0 T1 hb hb2
    go_wp2_with fail
    go_roundw
    case rel => exact ⟨i + 1, by omega, by go_num, hb3⟩
    case measure => simp [intOf]; omega

set_option maxRecDepth 100000 in
set_option maxHeartbeats 2000000 in
theorem containsSize_any (w : World) {a_l : Option Addr} {n_l c_l : Nat} {l : List CQ} (h_l : RdC w a_l n_l c_l l) (hok : ∀ x ∈ l, x.bs.length ≤ 64) : Calls Try.prog 48 #[.slice a_l n_l c_l, .func (.func 49) #[] #[]] w (fun e w' => e = .returned (.bool false) ∧ Below w.heap.size w w') := by
  have B0 : Below w.heap.size w w := Below.refl _ _
  go_enter Try.func48, Try.ntmps48
  go_wp2_with fail
  have c := indexSize_any w h_l hok
  refine c.mono ?_
  rintro e w1 ⟨rfl, hb⟩
  clear c
  have B1 := B0.trans (hb.mono B0.size)
  clear hb B0
  go_wp2_with fail
  go_ret
  exact ⟨rfl, B1⟩

set_option maxRecDepth 100000 in
set_option maxHeartbeats 2000000 in
theorem placeC_any (w : World) {a_l : Option Addr} {n_l c_l : Nat} {l : List CQ} (h_l : RdC w a_l n_l c_l l) (name : ByteArray) : Calls Try.prog 27 #[.slice a_l n_l c_l, .string name] w (fun e w' => e = .returned (.int .i64 (plcI l name)) ∧ Below w.heap.size w w') := by
  have B0 : Below w.heap.size w w := Below.refl _ _
  have h_l_0 := h_l
  go_enter Try.func27, Try.ntmps27
  have hb := below_al w (.cells #[.string name] 9)
  have B1 := B0.trans (hb.mono B0.size)
  have h_l_1 := h_l_0.below batE_lasts hb
  clear hb B0 h_l_0
  have h_s_1 := PRow.new 9 w #[.string name]
  have k_s_0 := h_s_1.cell 0 _ rfl
  go_wp2_with fail
  clear k_s_0
  generalize (w.alloc (.cells #[.string name] 9)) = w1 at *
  have c := indexPlace_any w1 h_l_1 name h_s_1
  refine c.mono ?_
  rintro e w2 ⟨rfl, hb⟩
  clear c
  have B2 := B1.trans (hb.mono B1.size)
  have h_l_2 := h_l_1.below batE_lasts hb
  have h_s_2 := h_s_1.later hb
  clear hb B1 h_l_1 h_s_1
  go_wp2_with fail
  go_ret
  exact ⟨rfl, B2⟩

end Go.Proofs.Ythpjnbnheagpiaa
