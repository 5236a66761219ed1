/- Filling a sheet: the plain side and the program. No condition. Printed by gen_shee.py. -/
import Derived.Test.YthpjnbnheagpiaaSheB
import Derived.Test.YthpjnbnheagpiaaSheD
namespace Go.Proofs.Ythpjnbnheagpiaa
open Go.RowKit Go.Suf
set_option linter.unusedVariables false
set_option linter.unusedSimpArgs false

/-- The box of the k-th mark. -/
def posF (kd n : Nat) (ms : List Int) (k : Nat) : Nat := if kd = 1 then (ith ms k).toNat * n + k else if kd = 3 then k * 11 + (ith ms k).toNat else (ith ms k).toNat
def fillI (kd n nb : Nat) (ms : List Int) : Nat → List Nat
  | 0 => zs nb
  | i + 1 => (fillI kd n nb ms i).set (posF kd n ms i) 100
def fitsB (ss : List ByteArray) (rule kd : Nat) (ms : List Int) : Bool := decide (kd = kindN rule) && (fineQ kd ms ss.length && (decide (kd = 3) || decide ((ms.length : Int) ≤ marksN rule ss.length)))
def fillC (nm : ByteArray) (ss : List ByteArray) (seats : Int) (rule kd : Nat) (ms : List Int) : List Nat × Int :=
  if checkC nm ss seats rule = 0 then (if fitsB ss rule kd ms = true then (fillI kd ss.length (boxesN ss rule) ms ms.length, 0) else ([], 8)) else ([], checkC nm ss seats rule)

theorem marks_le {rule : Nat} {c : Int} (h : 1 ≤ c) : marksN rule c ≤ c := by
  unfold marksN
  split <;> omega
theorem fine_kinds {kd : Nat} {ms : List Int} {c : Int} (h : fineQ kd ms c = true) : kd = 1 ∨ kd = 2 ∨ kd = 3 := by
  by_cases h1 : kd = 1
  · exact .inl h1
  by_cases h2 : kd = 2
  · exact .inr (.inl h2)
  by_cases h3 : kd = 3
  · exact .inr (.inr h3)
  rw [fine_other h1 h2 h3] at h
  cases h
theorem fine_range {kd : Nat} {ms : List Int} {c : Int} (h : fineQ kd ms c = true) {i : Nat} (hi : i < ms.length) : 0 ≤ ith ms i ∧ ith ms i < (if kd = 3 then 11 else c) := Classical.byContradiction fun hn => by
  rw [fine_bad hi hn] at h
  cases h
theorem fine_len {ms : List Int} {c : Int} (h : fineQ 3 ms c = true) : (ms.length : Int) = c := by
  rw [fine_score (fun i hi => by have := fine_range h hi; simpa using this)] at h
  exact of_decide_eq_true h

/-- What the k-th mark of a fitting ballot is. -/
theorem pos_lt {ss : List ByteArray} {rule kd : Nat} {ms : List Int} (hn : 1 ≤ ss.length) (hn10 : ss.length ≤ 10) (h : fitsB ss rule kd ms = true) {k : Nat} (hk : k < ms.length) :
    posF kd ss.length ms k < boxesN ss rule ∧ ∃ m : Nat, ith ms k = (m : Nat) ∧ m ≤ 10 ∧ k ≤ 10 ∧ posF kd ss.length ms k = (if kd = 1 then m * ss.length + k else if kd = 3 then k * 11 + m else m) := by
  unfold fitsB at h
  simp only [Bool.and_eq_true, Bool.or_eq_true, decide_eq_true_eq] at h
  obtain ⟨h1, h2, h3⟩ := h
  have hr := fine_range h2 hk
  obtain ⟨m, hm⟩ : ∃ m : Nat, ith ms k = (m : Nat) := ⟨(ith ms k).toNat, by omega⟩
  have hml := marks_le (rule := rule) (c := (ss.length : Nat)) (by omega)
  unfold boxesN
  rw [← h1]
  rw [hm] at hr
  have hpos : posF kd ss.length ms k = (if kd = 1 then m * ss.length + k else if kd = 3 then k * 11 + m else m) := by unfold posF; rw [hm]; rfl
  rw [hpos]
  rcases fine_kinds h2 with rfl | rfl | rfl
  · rw [if_neg (by decide)] at hr
    have hk2 : k < ss.length := by omega
    refine ⟨?_, m, hm, by omega, by omega, rfl⟩
    rw [if_pos rfl]
    unfold wideN
    rw [if_pos rfl]
    have e : (m + 1) * ss.length ≤ ss.length * ss.length := Nat.mul_le_mul_right _ (by omega)
    rw [Nat.succ_mul] at e
    omega
  · rw [if_neg (by decide)] at hr
    have hk2 : k < ss.length := by omega
    refine ⟨?_, m, hm, by omega, by omega, rfl⟩
    rw [if_neg (by decide), if_neg (by decide)]
    unfold wideN
    rw [if_neg (by decide), if_neg (by decide)]
    omega
  · rw [if_pos rfl] at hr
    have hl := fine_len h2
    refine ⟨?_, m, hm, by omega, by omega, rfl⟩
    rw [if_neg (by decide), if_pos rfl]
    unfold wideN
    rw [if_neg (by decide), if_pos rfl]
    omega
theorem fillI_len (kd n nb : Nat) (ms : List Int) (i : Nat) : (fillI kd n nb ms i).length = nb := by
  induction i with
  | zero => simp [fillI, zs]
  | succ i ih => simp [fillI, ih]
theorem fits_marks {ss : List ByteArray} {rule kd : Nat} {ms : List Int} (h1 : kd = kindN rule) (h2 : fineQ kd ms ss.length = true) (h3 : kd = 3 ∨ (ms.length : Int) ≤ marksN rule ss.length) : fitsB ss rule kd ms = true := by
  unfold fitsB
  rw [decide_eq_true h1, h2]
  rcases h3 with h3 | h3
  · rw [decide_eq_true h3]; rfl
  · rw [decide_eq_true h3, Bool.or_true]; rfl
theorem fits_no {ss : List ByteArray} {rule kd : Nat} {ms : List Int} (h : ¬ (kd = kindN rule ∧ fineQ kd ms ss.length = true ∧ (kd = 3 ∨ (ms.length : Int) ≤ marksN rule ss.length))) : fitsB ss rule kd ms = false := by
  rw [← Bool.not_eq_true]
  intro hh
  unfold fitsB at hh
  simp only [Bool.and_eq_true, Bool.or_eq_true, decide_eq_true_eq] at hh
  exact h hh

set_option maxRecDepth 100000 in
set_option maxHeartbeats 4000000 in
theorem Fill_any (w : World) (nm : ByteArray) {a_s : Option Addr} {n_s c_s : Nat} {ss : List ByteArray} (h_s : RdS w a_s n_s c_s ss) (seats : Int) (hs1 : -9223372036854775808 ≤ seats) (hs2 : seats ≤ 9223372036854775807) (rule : Nat) (hr : rule < 256) (kd : Nat) (hk : kd < 256) {a_m : Option Addr} {n_m c_m : Nat} {ms : List Int} (h_m : RdI w a_m n_m c_m ms) : Calls Try.prog 8 #[.agg #[.string nm, .slice a_s n_s c_s, .int .i64 seats, .int .u8 ((rule : Nat) : Int)], .agg #[.int .u8 ((kd : Nat) : Int), .slice a_m n_m c_m]] w (RetSh w (fillC nm ss seats rule kd ms)) := by
  have HN := Lib.hid h_s.len
  have hns := h_s.lt
  have HM := Lib.hid h_m.len
  have hnm := h_m.lt
  obtain ⟨r, hr0⟩ : ∃ r, fillC nm ss seats rule kd ms = r := ⟨_, rfl⟩
  rw [hr0]
  have HR := Lib.hid hr0
  clear hr0
  obtain ⟨ck, hck⟩ : ∃ ck, checkC nm ss seats rule = ck := ⟨_, rfl⟩
  have HCK := Lib.hid hck
  clear hck
  obtain ⟨bx, hbx⟩ : ∃ bx, boxesC nm ss seats rule = bx := ⟨_, rfl⟩
  have HBX := Lib.hid hbx
  clear hbx
  have B0 : Below w.heap.size w w := Below.refl _ _
  have h_s_0 := h_s
  have h_m_0 := h_m
  go_enter Try.func8, Try.ntmps8
  have hb := below_al w (.cells #[.string nm, .slice a_s n_s c_s, .int .i64 seats, .int .u8 ((rule : Nat) : Int)] 24)
  have B1 := B0.trans (hb.mono B0.size)
  have h_s_1 := h_s_0.below hb
  have h_m_1 := h_m_0.below hb
  clear hb B0 h_s_0 h_m_0
  have h_c_1 := PRow.new 24 w #[.string nm, .slice a_s n_s c_s, .int .i64 seats, .int .u8 ((rule : Nat) : Int)]
  have hb := below_al (w.alloc (.cells #[.string nm, .slice a_s n_s c_s, .int .i64 seats, .int .u8 ((rule : Nat) : Int)] 24)) (.cells #[.int .u8 ((kd : Nat) : Int), .slice a_m n_m c_m] 37)
  have B2 := B1.trans (hb.mono B1.size)
  have h_s_2 := h_s_1.below hb
  have h_m_2 := h_m_1.below hb
  have h_c_2 := h_c_1.later hb
  clear hb B1 h_s_1 h_m_1 h_c_1
  have h_b_2 := PRow.new 37 (w.alloc (.cells #[.string nm, .slice a_s n_s c_s, .int .i64 seats, .int .u8 ((rule : Nat) : Int)] 24)) #[.int .u8 ((kd : Nat) : Int), .slice a_m n_m c_m]
  simp only [World.size_alloc] at h_b_2
  have HO0 := Lib.hid B2
  have hb := below_al ((w.alloc (.cells #[.string nm, .slice a_s n_s c_s, .int .i64 seats, .int .u8 ((rule : Nat) : Int)] 24)).alloc (.cells #[.int .u8 ((kd : Nat) : Int), .slice a_m n_m c_m] 37)) (.cells #[.slice none 0 0] 40)
  have B3 := B2.trans (hb.mono B2.size)
  have h_s_3 := h_s_2.below hb
  have h_m_3 := h_m_2.below hb
  have h_c_3 := h_c_2.later hb
  have h_b_3 := h_b_2.later hb
  clear hb B2 h_s_2 h_m_2 h_c_2 h_b_2
  have h_o_3 := PRow.new 40 ((w.alloc (.cells #[.string nm, .slice a_s n_s c_s, .int .i64 seats, .int .u8 ((rule : Nat) : Int)] 24)).alloc (.cells #[.int .u8 ((kd : Nat) : Int), .slice a_m n_m c_m] 37)) #[.slice none 0 0]
  simp only [World.size_alloc] at h_o_3
  have k_c_0 := h_c_3.cell 0 _ rfl
  have k_c_1 := h_c_3.cell 1 _ rfl
  have k_c_2 := h_c_3.cell 2 _ rfl
  have k_c_3 := h_c_3.cell 3 _ rfl
  go_wp2_with fail
  clear k_c_0 k_c_1 k_c_2 k_c_3
  generalize (((w.alloc (.cells #[.string nm, .slice a_s n_s c_s, .int .i64 seats, .int .u8 ((rule : Nat) : Int)] 24)).alloc (.cells #[.int .u8 ((kd : Nat) : Int), .slice a_m n_m c_m] 37)).alloc (.cells #[.slice none 0 0] 40)) = w3 at *
  have c := Boxes_any w3 nm h_s_3 seats hs1 hs2 rule hr
  rw [HBX.out] at c
  refine c.mono ?_
  rintro e w4 ⟨rfl, hb⟩
  clear c
  have B4 := B3.trans (hb.mono B3.size)
  have h_s_4 := h_s_3.below hb
  have h_m_4 := h_m_3.below hb
  have h_c_4 := h_c_3.later hb
  have h_b_4 := h_b_3.later hb
  have h_o_4 := h_o_3.later hb
  clear hb B3 h_s_3 h_m_3 h_c_3 h_b_3 h_o_3
  by_cases hck : ck = 0
  case neg =>
    have e1 : (ck == (0 : Int)) = false := by simpa using hck
    have e2 : (ck != (0 : Int)) = true := by simpa using hck
    obtain rfl : bx = (0, ck) := by rw [← HBX.out]; unfold boxesC; rw [HCK.out, if_neg hck]
    have HRR := Lib.hid (show r = ([], ck) by rw [← HR.out]; unfold fillC; rw [HCK.out, if_neg hck])
    have R := h_o_4
    have k_o_0 := h_o_4.cell 0 _ rfl
    go_wp2_with first | refine wpList_store_whole rfl 40 _ _ rfl atShe _ _ _ R.row rfl rfl rfl rfl (she_one none 0 0) ?_
    clear k_o_0
    refine bodyPost_ret (results_cell_two rfl _ _ _ _ _ _ _ rfl (setRow_heap _ _ _ _ _ _ R.row) Try.underlying40 rfl (by kernel_rfl) _ rfl) rfl ?_
    exact RetSh.nils HRR.out (HO0.out.trans ((R.put _).below.mono HO0.out.size))
  subst hck
  obtain ⟨g1, g2, g3⟩ := chk_rule HCK.out
  have HQ3 := Lib.hid g3
  obtain ⟨nb, hnb⟩ : ∃ nb, boxesN ss rule = nb := ⟨_, rfl⟩
  obtain rfl : bx = (nb, 0) := by rw [← HBX.out, ← hnb]; unfold boxesC; rw [HCK.out]; rfl
  have hnb2 : nb ≤ 110 := by rw [← hnb]; exact boxes_le g1
  have HNB := Lib.hid hnb
  have HRC := Lib.hid (show r = if fitsB ss rule kd ms = true then (fillI kd n_s nb ms n_m, 0) else ([], 8) by rw [← HR.out, ← hnb, ← HN.out, ← HM.out]; unfold fillC; rw [HCK.out, if_pos rfl])
  have HLT := Lib.hid (fun (hf : fitsB ss rule kd ms = true) (k : Nat) (hk : k < n_m) => pos_lt (rule := rule) (kd := kd) (ms := ms) g2 g1 hf (k := k) (by rw [HM.out]; exact hk))
  rw [HN.out] at g1 g2 HLT
  rw [hnb] at HLT
  clear hnb g3
  have k_c_0 := h_c_4.cell 0 _ rfl
  have k_c_1 := h_c_4.cell 1 _ rfl
  have k_c_2 := h_c_4.cell 2 _ rfl
  have k_c_3 := h_c_4.cell 3 _ rfl
  go_wp2_with fail
  clear k_c_0 k_c_1 k_c_2 k_c_3
  have c := Kind_any w4 rule hr
  rw [show kindC rule = (kindN rule, 0) by unfold kindC; rw [HQ3.out]; rfl] at c
  refine c.mono ?_
  rintro e w5 ⟨rfl, hb⟩
  clear c
  have B5 := B4.trans (hb.mono B4.size)
  have h_s_5 := h_s_4.below hb
  have h_m_5 := h_m_4.below hb
  have h_c_5 := h_c_4.later hb
  have h_b_5 := h_b_4.later hb
  have h_o_5 := h_o_4.later hb
  clear hb B4 h_s_4 h_m_4 h_c_4 h_b_4 h_o_4
  obtain ⟨k, hk0⟩ : ∃ k, kindN rule = k := ⟨_, rfl⟩
  have hk3 : k < 256 := by rw [← hk0]; exact Nat.lt_of_le_of_lt (kind_le rule) (by decide)
  have HK := Lib.hid hk0
  rw [hk0]
  clear hk0
  have k_c_0 := h_c_5.cell 0 _ rfl
  have k_c_1 := h_c_5.cell 1 _ rfl
  have k_c_2 := h_c_5.cell 2 _ rfl
  have k_c_3 := h_c_5.cell 3 _ rfl
  go_wp2_with fail
  clear k_c_0 k_c_1 k_c_2 k_c_3
  obtain ⟨mo, hmo⟩ : ∃ mo, marksN rule (n_s : Nat) = mo := ⟨_, rfl⟩
  have HMO := Lib.hid hmo
  have hmob : -9223372036854775808 ≤ mo ∧ mo ≤ 9223372036854775807 := by rw [← hmo]; unfold marksN; split <;> omega
  clear hmo
  have c := Most_any w5 rule hr ((n_s : Nat) : Int) (by omega) (by omega)
  rw [show mostC rule ((n_s : Nat) : Int) = (mo, 0) by unfold mostC; rw [if_pos ⟨HQ3.out, by omega, by omega⟩, HMO.out]] at c
  refine c.mono ?_
  rintro e w6 ⟨rfl, hb⟩
  clear c
  have B6 := B5.trans (hb.mono B5.size)
  have h_s_6 := h_s_5.below hb
  have h_m_6 := h_m_5.below hb
  have h_c_6 := h_c_5.later hb
  have h_b_6 := h_b_5.later hb
  have h_o_6 := h_o_5.later hb
  clear hb B5 h_s_5 h_m_5 h_c_5 h_b_5 h_o_5
  by_cases hkk : kd = k
  case neg =>
    have e1 : (((kd : Nat) : Int) != ((k : Nat) : Int)) = true := by simp; omega
    have HRR := Lib.hid (show r = ([], 8) by rw [HRC.out, fits_no (fun h => hkk (by rw [← HK.out]; exact h.1))]; rfl)
    have R := h_o_6
    have k_b_0 := h_b_6.cell 0 _ rfl
    have k_b_1 := h_b_6.cell 1 _ rfl
    have k_o_0 := h_o_6.cell 0 _ rfl
    go_wp2_with first | refine wpList_store_whole rfl 40 _ _ rfl atShe _ _ _ R.row rfl rfl rfl rfl (she_one none 0 0) ?_
    clear k_b_0 k_b_1 k_o_0
    refine bodyPost_ret (results_cell_two rfl _ _ _ _ _ _ _ rfl (setRow_heap _ _ _ _ _ _ R.row) Try.underlying40 rfl (by kernel_rfl) _ rfl) rfl ?_
    exact RetSh.nils HRR.out (HO0.out.trans ((R.put _).below.mono HO0.out.size))
  subst hkk
  have e0 : (((kd : Nat) : Int) != ((kd : Nat) : Int)) = false := by simp
  obtain ⟨fq, hfq⟩ : ∃ fq, fineQ kd ms (n_s : Nat) = fq := ⟨_, rfl⟩
  have HFQ := Lib.hid hfq
  clear hfq
  have k_c_0 := h_c_6.cell 0 _ rfl
  have k_c_1 := h_c_6.cell 1 _ rfl
  have k_c_2 := h_c_6.cell 2 _ rfl
  have k_c_3 := h_c_6.cell 3 _ rfl
  have k_b_0 := h_b_6.cell 0 _ rfl
  have k_b_1 := h_b_6.cell 1 _ rfl
  go_wp2_with fail
  clear k_c_0 k_c_1 k_c_2 k_c_3 k_b_0 k_b_1
  have c := ballCheck_any w6 kd hk h_m_6 ((n_s : Nat) : Int)
  rw [show ballC kd ms ((n_s : Nat) : Int) = if fq = true then 0 else 8 by unfold ballC; rw [if_pos ⟨by omega, by omega⟩, HFQ.out]] at c
  refine c.mono ?_
  rintro e w7 ⟨rfl, hb⟩
  clear c
  have B7 := B6.trans (hb.mono B6.size)
  have h_s_7 := h_s_6.below hb
  have h_m_7 := h_m_6.below hb
  have h_c_7 := h_c_6.later hb
  have h_b_7 := h_b_6.later hb
  have h_o_7 := h_o_6.later hb
  clear hb B6 h_s_6 h_m_6 h_c_6 h_b_6 h_o_6
  cases fq
  case false =>
    rw [if_neg (by decide)]
    have HRR := Lib.hid (show r = ([], 8) by rw [HRC.out, fits_no (fun h => by have := h.2.1; rw [HN.out, HFQ.out] at this; cases this)]; rfl)
    have R := h_o_7
    have k_b_0 := h_b_7.cell 0 _ rfl
    have k_b_1 := h_b_7.cell 1 _ rfl
    have k_o_0 := h_o_7.cell 0 _ rfl
    go_wp2_with first | refine wpList_store_whole rfl 40 _ _ rfl atShe _ _ _ R.row rfl rfl rfl rfl (she_one none 0 0) ?_
    clear k_b_0 k_b_1 k_o_0
    refine bodyPost_ret (results_cell_two rfl _ _ _ _ _ _ _ rfl (setRow_heap _ _ _ _ _ _ R.row) Try.underlying40 rfl (by kernel_rfl) _ rfl) rfl ?_
    exact RetSh.nils HRR.out (HO0.out.trans ((R.put _).below.mono HO0.out.size))
  case true =>
    rw [if_pos rfl]
    by_cases h3 : kd = 3
    case pos =>
      have HF := Lib.hid (fits_marks (ss := ss) HK.out.symm (by rw [HN.out]; exact HFQ.out) (.inl h3))
      have e3 : (((kd : Nat) : Int) == 3) = true := by simp; omega
      have e3n : (((kd : Nat) : Int) != 3) = false := by simp; omega
      have e1 : (((kd : Nat) : Int) == 1) = false := by simp; omega
      have HRR := Lib.hid (show r = (fillI kd n_s nb ms n_m, 0) by rw [HRC.out, if_pos HF.out])
      have mk : ∀ w, (Instr.makeSlice 38 (.int .i64 (nb : Int)) (.int .i64 (nb : Int))).run Try.prog w = .ok (.slice (some ⟨w.heap.size, 0, none⟩) nb nb) (w.alloc (.cells (zeros .u8 nb) 5)) := fun w => run_zeros etY nb (by omega) (by omega) w
      have hal := below_al w7 (.cells (zeros .u8 nb) 5)
      have HOW := Ow.full .u8 5 w7 nb (by unfold maxLen; omega)
      have RO := h_o_7.later hal
      have ro0 := RO.cell 0 _ rfl
      have rof := RO.free 0
      have kb1 := (h_b_7.later hal).cell 1 _ rfl
      have kbw0 := h_b_7.cell 0 _ rfl
      have kbw1 := h_b_7.cell 1 _ rfl
      go_upto_region 9 with fail
      clear mk ro0 rof kb1 kbw0 kbw1
      obtain ⟨g, hg⟩ : ∃ g, g = w7.heap.size := ⟨_, rfl⟩
      rw [← hg] at HOW ⊢
      have hob := h_o_7.lt
      have hol := h_o_7.lo
      have hbb := h_b_7.lt
      have hbc := h_c_7.lt
      rw [← hg] at hob hbb hbc
      have RO1 := RO.set 0 (.slice (some ⟨g, 0, none⟩) nb nb)
      simp only [List.setIfInBounds_toArray, List.set_cons_zero] at RO1
      have HOW1 := HOW.keepH (w' := (w7.alloc (.cells (zeros .u8 nb) 5)).setCell ⟨w.heap.size + 1 + 1, 0, none⟩ (.slice (some ⟨g, 0, none⟩) nb nb)) (heap_setCell_other _ ⟨w.heap.size + 1 + 1, 0, none⟩ _ _ (by show g ≠ w.heap.size + 1 + 1; omega))
      have RB1 := (h_b_7.later hal).other (p := ⟨w.heap.size + 1 + 1, 0, none⟩) (by show w.heap.size + 1 ≠ w.heap.size + 1 + 1; omega) (Nat.le_trans h_b_7.lo (by show w.heap.size + 1 ≤ w.heap.size + 1 + 1; omega)) (.slice (some ⟨g, 0, none⟩) nb nb)
      have RC1 := (h_c_7.later hal).other (p := ⟨w.heap.size + 1 + 1, 0, none⟩) (by show w.heap.size ≠ w.heap.size + 1 + 1; omega) (Nat.le_trans h_c_7.lo (by show w.heap.size ≤ w.heap.size + 1 + 1; omega)) (.slice (some ⟨g, 0, none⟩) nb nb)
      generalize (w7.alloc (.cells (zeros .u8 nb) 5)).setCell ⟨w.heap.size + 1 + 1, 0, none⟩ (.slice (some ⟨g, 0, none⟩) nb nb) = wg at *
      have HRO := Lib.hid RO1
      have HRB := Lib.hid RB1
      have HRCC := Lib.hid RC1
      have HGW := Lib.hid hg
      have BG := HO0.out.trans (RO1.below.mono HO0.out.size)
      have HBG := Lib.hid BG
      have hwg : w.heap.size ≤ g := Nat.le_trans HO0.out.size (by omega)
      have HWG := Lib.hid hwg
      have kbg := RB1.cell 1 _ rfl
      clear RO RO1 RB1 RC1 hal HOW hg
      go_wp2_with fail
      clear kbg
      go_loopw [68] (fun jv wr => ∃ i : Nat, i ≤ n_m ∧ jv = .int .i64 (i : Nat) ∧ Below g wg wr ∧ Ow .u8 5 g wr (some ⟨g, 0, none⟩) nb nb (fillI kd n_s nb ms i)) (fun jv _ => n_m - (intOf jv).toNat)
      case atStart => exact ⟨0, Nat.zero_le _, rfl, Below.refl _ _, HOW1⟩
      clear HOW1
      case round =>
        rename World => wr
        obtain ⟨i, hi, rfl, hbl, hob2⟩ := hrel
        have BW := HBG.out.trans (hbl.mono HWG.out)
        have RO2 := HRO.out.keep hbl hob (Nat.le_trans hol (Nat.le_of_lt hob))
        have ro2 := RO2.cell 0 _ rfl
        by_cases hlt : i < n_m
        case pos =>
          obtain ⟨hp, m, m1, m2, m3, m4⟩ := HLT.out HF.out i hlt
          obtain ⟨b, off, rfl, hcc⟩ := (h_m.below BW).addrI (by omega)
          have kx := hcc i hlt
          clear hcc
          rw [m1] at kx
          have HM1 := Lib.hid m1
          clear m1
          have kcc := (HRCC.out.keep hbl hbc (Nat.le_trans (Nat.le_of_lt_succ (Nat.lt_succ_of_le HRCC.out.lo)) (Nat.le_of_lt hbc))).cell 1 _ rfl
          obtain ⟨t, ht⟩ : ∃ t, posF kd n_s ms i = t := ⟨_, rfl⟩
          rw [ht] at hp m4
          have HT := Lib.hid ht
          clear ht
          have kt := hob2.at t hp
          have ft := hob2.free t
          have htz : ((t : Nat) : Int) < ((nb : Nat) : Int) := by omega
          rw [if_neg (by omega), if_pos h3] at m4
          obtain ⟨q, hq⟩ : ∃ q, i * 11 = q := ⟨_, rfl⟩
          rw [hq] at m4
          have hw1 : IntKind.i64.wrap (((i : Nat) : Int) * 11) = ((q : Nat) : Int) := (congrArg IntKind.i64.wrap (by omega)).trans (wrap_in (z := ((q : Nat) : Int)) (by omega) (by omega))
          have hw2 : IntKind.i64.wrap (((q : Nat) : Int) + ((m : Nat) : Int)) = ((t : Nat) : Int) := (congrArg IntKind.i64.wrap (by omega)).trans (wrap_in (z := ((t : Nat) : Int)) (by omega) (by omega))
          clear hq m4
          have h5 : Ow .u8 5 g (wr.setCell ⟨g, t, none⟩ (.int .u8 100)) (some ⟨g, 0, none⟩) nb nb ((fillI kd n_s nb ms i).set t 100) := hob2.set t 100 (by show 100 < 256; decide)
          have h6 : Ow .u8 5 g (wr.setCell ⟨g, t, none⟩ (.int .u8 100)) (some ⟨g, 0, none⟩) nb nb (fillI kd n_s nb ms (i + 1)) := by
            rw [show fillI kd n_s nb ms (i + 1) = (fillI kd n_s nb ms i).set t 100 by rw [← HT.out]; rfl]
            exact h5
          have h7 := hbl.setCell (p := ⟨g, t, none⟩) (Nat.le_refl g) (.int .u8 100)
          go_wp2_with fail
          go_roundw
          case rel => exact ⟨i + 1, by omega, by go_num, h7, h6⟩
          case measure => simp [intOf]; omega
        case neg =>
          obtain rfl : n_m = i := by omega
          go_wp2_with first | refine wpList_store_whole rfl 40 _ _ rfl atShe _ _ _ RO2.row rfl rfl rfl rfl (she_one _ _ _) ?_
          refine bodyPost_ret (results_cell_two rfl _ _ _ _ _ _ _ rfl (setRow_heap _ _ _ _ _ _ RO2.row) Try.underlying40 rfl (by kernel_rfl) _ rfl) rfl ?_
          exact ⟨some ⟨g, 0, none⟩, nb, nb, by rw [HRR.out]; rfl, by rw [HRR.out]; exact (hob2.keepH (setRow_other _ _ _ _ (by omega))).base_le HWG.out, HO0.out.trans ((RO2.put _).below.mono HO0.out.size)⟩
    have e3 : (((kd : Nat) : Int) == 3) = false := by simp; omega
    have e3n : (((kd : Nat) : Int) != 3) = true := by simp; omega
    by_cases hml : mo < (n_m : Nat)
    case pos =>
      have hgt : decide (((n_m : Nat) : Int) > mo) = true := decide_eq_true (by omega)
      have HRR := Lib.hid (show r = ([], 8) by rw [HRC.out, fits_no (fun h => by rcases h.2.2 with h4 | h4; exact h3 h4; rw [HN.out, HMO.out, HM.out] at h4; omega)]; rfl)
      have R := h_o_7
      have k_b_0 := h_b_7.cell 0 _ rfl
      have k_b_1 := h_b_7.cell 1 _ rfl
      have k_o_0 := h_o_7.cell 0 _ rfl
      go_wp2_with first | refine wpList_store_whole rfl 40 _ _ rfl atShe _ _ _ R.row rfl rfl rfl rfl (she_one none 0 0) ?_
      clear k_b_0 k_b_1 k_o_0
      refine bodyPost_ret (results_cell_two rfl _ _ _ _ _ _ _ rfl (setRow_heap _ _ _ _ _ _ R.row) Try.underlying40 rfl (by kernel_rfl) _ rfl) rfl ?_
      exact RetSh.nils HRR.out (HO0.out.trans ((R.put _).below.mono HO0.out.size))
    have hgt : decide (((n_m : Nat) : Int) > mo) = false := decide_eq_false (by omega)
    have HF := Lib.hid (fits_marks (ss := ss) HK.out.symm (by rw [HN.out]; exact HFQ.out) (.inr (by rw [HN.out, HMO.out, HM.out]; omega)))
    by_cases h1 : kd = 1
    case pos =>
      have e1 : (((kd : Nat) : Int) == 1) = true := by simp; omega
      have HRR := Lib.hid (show r = (fillI kd n_s nb ms n_m, 0) by rw [HRC.out, if_pos HF.out])
      have mk : ∀ w, (Instr.makeSlice 38 (.int .i64 (nb : Int)) (.int .i64 (nb : Int))).run Try.prog w = .ok (.slice (some ⟨w.heap.size, 0, none⟩) nb nb) (w.alloc (.cells (zeros .u8 nb) 5)) := fun w => run_zeros etY nb (by omega) (by omega) w
      have hal := below_al w7 (.cells (zeros .u8 nb) 5)
      have HOW := Ow.full .u8 5 w7 nb (by unfold maxLen; omega)
      have RO := h_o_7.later hal
      have ro0 := RO.cell 0 _ rfl
      have rof := RO.free 0
      have kb1 := (h_b_7.later hal).cell 1 _ rfl
      have kbw0 := h_b_7.cell 0 _ rfl
      have kbw1 := h_b_7.cell 1 _ rfl
      go_upto_region 9 with fail
      clear mk ro0 rof kb1 kbw0 kbw1
      obtain ⟨g, hg⟩ : ∃ g, g = w7.heap.size := ⟨_, rfl⟩
      rw [← hg] at HOW ⊢
      have hob := h_o_7.lt
      have hol := h_o_7.lo
      have hbb := h_b_7.lt
      have hbc := h_c_7.lt
      rw [← hg] at hob hbb hbc
      have RO1 := RO.set 0 (.slice (some ⟨g, 0, none⟩) nb nb)
      simp only [List.setIfInBounds_toArray, List.set_cons_zero] at RO1
      have HOW1 := HOW.keepH (w' := (w7.alloc (.cells (zeros .u8 nb) 5)).setCell ⟨w.heap.size + 1 + 1, 0, none⟩ (.slice (some ⟨g, 0, none⟩) nb nb)) (heap_setCell_other _ ⟨w.heap.size + 1 + 1, 0, none⟩ _ _ (by show g ≠ w.heap.size + 1 + 1; omega))
      have RB1 := (h_b_7.later hal).other (p := ⟨w.heap.size + 1 + 1, 0, none⟩) (by show w.heap.size + 1 ≠ w.heap.size + 1 + 1; omega) (Nat.le_trans h_b_7.lo (by show w.heap.size + 1 ≤ w.heap.size + 1 + 1; omega)) (.slice (some ⟨g, 0, none⟩) nb nb)
      have RC1 := (h_c_7.later hal).other (p := ⟨w.heap.size + 1 + 1, 0, none⟩) (by show w.heap.size ≠ w.heap.size + 1 + 1; omega) (Nat.le_trans h_c_7.lo (by show w.heap.size ≤ w.heap.size + 1 + 1; omega)) (.slice (some ⟨g, 0, none⟩) nb nb)
      generalize (w7.alloc (.cells (zeros .u8 nb) 5)).setCell ⟨w.heap.size + 1 + 1, 0, none⟩ (.slice (some ⟨g, 0, none⟩) nb nb) = wg at *
      have HRO := Lib.hid RO1
      have HRB := Lib.hid RB1
      have HRCC := Lib.hid RC1
      have HGW := Lib.hid hg
      have BG := HO0.out.trans (RO1.below.mono HO0.out.size)
      have HBG := Lib.hid BG
      have hwg : w.heap.size ≤ g := Nat.le_trans HO0.out.size (by omega)
      have HWG := Lib.hid hwg
      have kbg := RB1.cell 1 _ rfl
      clear RO RO1 RB1 RC1 hal HOW hg
      go_wp2_with fail
      clear kbg
      go_loopw [68] (fun jv wr => ∃ i : Nat, i ≤ n_m ∧ jv = .int .i64 (i : Nat) ∧ Below g wg wr ∧ Ow .u8 5 g wr (some ⟨g, 0, none⟩) nb nb (fillI kd n_s nb ms i)) (fun jv _ => n_m - (intOf jv).toNat)
      case atStart => exact ⟨0, Nat.zero_le _, rfl, Below.refl _ _, HOW1⟩
      clear HOW1
      case round =>
        rename World => wr
        obtain ⟨i, hi, rfl, hbl, hob2⟩ := hrel
        have BW := HBG.out.trans (hbl.mono HWG.out)
        have RO2 := HRO.out.keep hbl hob (Nat.le_trans hol (Nat.le_of_lt hob))
        have ro2 := RO2.cell 0 _ rfl
        by_cases hlt : i < n_m
        case pos =>
          obtain ⟨hp, m, m1, m2, m3, m4⟩ := HLT.out HF.out i hlt
          obtain ⟨b, off, rfl, hcc⟩ := (h_m.below BW).addrI (by omega)
          have kx := hcc i hlt
          clear hcc
          rw [m1] at kx
          have HM1 := Lib.hid m1
          clear m1
          have kcc := (HRCC.out.keep hbl hbc (Nat.le_trans (Nat.le_of_lt_succ (Nat.lt_succ_of_le HRCC.out.lo)) (Nat.le_of_lt hbc))).cell 1 _ rfl
          obtain ⟨t, ht⟩ : ∃ t, posF kd n_s ms i = t := ⟨_, rfl⟩
          rw [ht] at hp m4
          have HT := Lib.hid ht
          clear ht
          have kt := hob2.at t hp
          have ft := hob2.free t
          have htz : ((t : Nat) : Int) < ((nb : Nat) : Int) := by omega
          rw [if_pos h1] at m4
          obtain ⟨q, hq⟩ : ∃ q, m * n_s = q := ⟨_, rfl⟩
          rw [hq] at m4
          have hw1 : IntKind.i64.wrap (((m : Nat) : Int) * ((n_s : Nat) : Int)) = ((q : Nat) : Int) := by rw [← hq]; exact mul_wrap (Nat.le_trans (Nat.mul_le_mul m2 g1) (by decide))
          have hw2 : IntKind.i64.wrap (((q : Nat) : Int) + ((i : Nat) : Int)) = ((t : Nat) : Int) := (congrArg IntKind.i64.wrap (by omega)).trans (wrap_in (z := ((t : Nat) : Int)) (by omega) (by omega))
          clear hq m4
          have h5 : Ow .u8 5 g (wr.setCell ⟨g, t, none⟩ (.int .u8 100)) (some ⟨g, 0, none⟩) nb nb ((fillI kd n_s nb ms i).set t 100) := hob2.set t 100 (by show 100 < 256; decide)
          have h6 : Ow .u8 5 g (wr.setCell ⟨g, t, none⟩ (.int .u8 100)) (some ⟨g, 0, none⟩) nb nb (fillI kd n_s nb ms (i + 1)) := by
            rw [show fillI kd n_s nb ms (i + 1) = (fillI kd n_s nb ms i).set t 100 by rw [← HT.out]; rfl]
            exact h5
          have h7 := hbl.setCell (p := ⟨g, t, none⟩) (Nat.le_refl g) (.int .u8 100)
          go_wp2_with fail
          go_roundw
          case rel => exact ⟨i + 1, by omega, by go_num, h7, h6⟩
          case measure => simp [intOf]; omega
        case neg =>
          obtain rfl : n_m = i := by omega
          go_wp2_with first | refine wpList_store_whole rfl 40 _ _ rfl atShe _ _ _ RO2.row rfl rfl rfl rfl (she_one _ _ _) ?_
          refine bodyPost_ret (results_cell_two rfl _ _ _ _ _ _ _ rfl (setRow_heap _ _ _ _ _ _ RO2.row) Try.underlying40 rfl (by kernel_rfl) _ rfl) rfl ?_
          exact ⟨some ⟨g, 0, none⟩, nb, nb, by rw [HRR.out]; rfl, by rw [HRR.out]; exact (hob2.keepH (setRow_other _ _ _ _ (by omega))).base_le HWG.out, HO0.out.trans ((RO2.put _).below.mono HO0.out.size)⟩
    case neg =>
      have e1 : (((kd : Nat) : Int) == 1) = false := by simp; omega
      have HRR := Lib.hid (show r = (fillI kd n_s nb ms n_m, 0) by rw [HRC.out, if_pos HF.out])
      have mk : ∀ w, (Instr.makeSlice 38 (.int .i64 (nb : Int)) (.int .i64 (nb : Int))).run Try.prog w = .ok (.slice (some ⟨w.heap.size, 0, none⟩) nb nb) (w.alloc (.cells (zeros .u8 nb) 5)) := fun w => run_zeros etY nb (by omega) (by omega) w
      have hal := below_al w7 (.cells (zeros .u8 nb) 5)
      have HOW := Ow.full .u8 5 w7 nb (by unfold maxLen; omega)
      have RO := h_o_7.later hal
      have ro0 := RO.cell 0 _ rfl
      have rof := RO.free 0
      have kb1 := (h_b_7.later hal).cell 1 _ rfl
      have kbw0 := h_b_7.cell 0 _ rfl
      have kbw1 := h_b_7.cell 1 _ rfl
      go_upto_region 9 with fail
      clear mk ro0 rof kb1 kbw0 kbw1
      obtain ⟨g, hg⟩ : ∃ g, g = w7.heap.size := ⟨_, rfl⟩
      rw [← hg] at HOW ⊢
      have hob := h_o_7.lt
      have hol := h_o_7.lo
      have hbb := h_b_7.lt
      have hbc := h_c_7.lt
      rw [← hg] at hob hbb hbc
      have RO1 := RO.set 0 (.slice (some ⟨g, 0, none⟩) nb nb)
      simp only [List.setIfInBounds_toArray, List.set_cons_zero] at RO1
      have HOW1 := HOW.keepH (w' := (w7.alloc (.cells (zeros .u8 nb) 5)).setCell ⟨w.heap.size + 1 + 1, 0, none⟩ (.slice (some ⟨g, 0, none⟩) nb nb)) (heap_setCell_other _ ⟨w.heap.size + 1 + 1, 0, none⟩ _ _ (by show g ≠ w.heap.size + 1 + 1; omega))
      have RB1 := (h_b_7.later hal).other (p := ⟨w.heap.size + 1 + 1, 0, none⟩) (by show w.heap.size + 1 ≠ w.heap.size + 1 + 1; omega) (Nat.le_trans h_b_7.lo (by show w.heap.size + 1 ≤ w.heap.size + 1 + 1; omega)) (.slice (some ⟨g, 0, none⟩) nb nb)
      have RC1 := (h_c_7.later hal).other (p := ⟨w.heap.size + 1 + 1, 0, none⟩) (by show w.heap.size ≠ w.heap.size + 1 + 1; omega) (Nat.le_trans h_c_7.lo (by show w.heap.size ≤ w.heap.size + 1 + 1; omega)) (.slice (some ⟨g, 0, none⟩) nb nb)
      generalize (w7.alloc (.cells (zeros .u8 nb) 5)).setCell ⟨w.heap.size + 1 + 1, 0, none⟩ (.slice (some ⟨g, 0, none⟩) nb nb) = wg at *
      have HRO := Lib.hid RO1
      have HRB := Lib.hid RB1
      have HRCC := Lib.hid RC1
      have HGW := Lib.hid hg
      have BG := HO0.out.trans (RO1.below.mono HO0.out.size)
      have HBG := Lib.hid BG
      have hwg : w.heap.size ≤ g := Nat.le_trans HO0.out.size (by omega)
      have HWG := Lib.hid hwg
      have kbg := RB1.cell 1 _ rfl
      clear RO RO1 RB1 RC1 hal HOW hg
      go_wp2_with fail
      clear kbg
      go_loopw [68] (fun jv wr => ∃ i : Nat, i ≤ n_m ∧ jv = .int .i64 (i : Nat) ∧ Below g wg wr ∧ Ow .u8 5 g wr (some ⟨g, 0, none⟩) nb nb (fillI kd n_s nb ms i)) (fun jv _ => n_m - (intOf jv).toNat)
      case atStart => exact ⟨0, Nat.zero_le _, rfl, Below.refl _ _, HOW1⟩
      clear HOW1
      case round =>
        rename World => wr
        obtain ⟨i, hi, rfl, hbl, hob2⟩ := hrel
        have BW := HBG.out.trans (hbl.mono HWG.out)
        have RO2 := HRO.out.keep hbl hob (Nat.le_trans hol (Nat.le_of_lt hob))
        have ro2 := RO2.cell 0 _ rfl
        by_cases hlt : i < n_m
        case pos =>
          obtain ⟨hp, m, m1, m2, m3, m4⟩ := HLT.out HF.out i hlt
          obtain ⟨b, off, rfl, hcc⟩ := (h_m.below BW).addrI (by omega)
          have kx := hcc i hlt
          clear hcc
          rw [m1] at kx
          have HM1 := Lib.hid m1
          clear m1
          have kcc := (HRCC.out.keep hbl hbc (Nat.le_trans (Nat.le_of_lt_succ (Nat.lt_succ_of_le HRCC.out.lo)) (Nat.le_of_lt hbc))).cell 1 _ rfl
          obtain ⟨t, ht⟩ : ∃ t, posF kd n_s ms i = t := ⟨_, rfl⟩
          rw [ht] at hp m4
          have HT := Lib.hid ht
          clear ht
          have kt := hob2.at t hp
          have ft := hob2.free t
          have htz : ((t : Nat) : Int) < ((nb : Nat) : Int) := by omega
          rw [if_neg h1, if_neg h3] at m4
          subst m4
          have h5 : Ow .u8 5 g (wr.setCell ⟨g, t, none⟩ (.int .u8 100)) (some ⟨g, 0, none⟩) nb nb ((fillI kd n_s nb ms i).set t 100) := hob2.set t 100 (by show 100 < 256; decide)
          have h6 : Ow .u8 5 g (wr.setCell ⟨g, t, none⟩ (.int .u8 100)) (some ⟨g, 0, none⟩) nb nb (fillI kd n_s nb ms (i + 1)) := by
            rw [show fillI kd n_s nb ms (i + 1) = (fillI kd n_s nb ms i).set t 100 by rw [← HT.out]; rfl]
            exact h5
          have h7 := hbl.setCell (p := ⟨g, t, none⟩) (Nat.le_refl g) (.int .u8 100)
          go_wp2_with fail
          go_roundw
          case rel => exact ⟨i + 1, by omega, by go_num, h7, h6⟩
          case measure => simp [intOf]; omega
        case neg =>
          obtain rfl : n_m = i := by omega
          go_wp2_with first | refine wpList_store_whole rfl 40 _ _ rfl atShe _ _ _ RO2.row rfl rfl rfl rfl (she_one _ _ _) ?_
          refine bodyPost_ret (results_cell_two rfl _ _ _ _ _ _ _ rfl (setRow_heap _ _ _ _ _ _ RO2.row) Try.underlying40 rfl (by kernel_rfl) _ rfl) rfl ?_
          exact ⟨some ⟨g, 0, none⟩, nb, nb, by rw [HRR.out]; rfl, by rw [HRR.out]; exact (hob2.keepH (setRow_other _ _ _ _ (by omega))).base_le HWG.out, HO0.out.trans ((RO2.put _).below.mono HO0.out.size)⟩

end Go.Proofs.Ythpjnbnheagpiaa
