/- Profiles: Add of one ballot, Same of equal ones. Conditions: valid profiles of at most 999 ballots and 64 rows. Printed by gen_topm.py. -/
import Derived.Test.YthpjnbnheagpiaaTopL
import Derived.Test.YthpjnbnheagpiaaTopI
import Derived.Test.YthpjnbnheagpiaaSheV
namespace Go.Proofs.Ythpjnbnheagpiaa
open Go.RowKit Go.Suf
set_option linter.unusedVariables false
set_option linter.unusedSimpArgs false

/-- Different numbers below c are at most c. -/
theorem nodup_len : ∀ (c : Nat) (l : List Int), l.Nodup → (∀ x ∈ l, 0 ≤ x ∧ x < (c : Int)) → l.length ≤ c
  | 0, l, _, h => by
    cases l with
    | nil => exact Nat.le_refl _
    | cons x l => have := h x (by simp); omega
  | c + 1, l, hn, h => by
    by_cases hm : (c : Int) ∈ l
    · have h1 := nodup_len c (l.erase (c : Int)) (hn.erase _) fun x hx => by
        have h2 := (List.Nodup.mem_erase_iff hn).1 hx
        have h3 := h x h2.2
        have h4 := h2.1
        exact ⟨h3.1, by omega⟩
      rw [List.length_erase_of_mem hm] at h1
      omega
    · have := nodup_len c l hn fun x hx => by
        have h3 := h x hx
        have h4 : x ≠ (c : Int) := fun e => hm (e ▸ hx)
        exact ⟨h3.1, by omega⟩
      omega
theorem ballC_len {kd : Nat} {ms : List Int} {c : Int} (h : ballC kd ms c = 0) : ms.length ≤ 10 := by
  unfold ballC at h
  split at h
  · split at h
    · rename_i hc hf
      unfold fineQ at hf
      split at hf
      · rw [Bool.and_eq_true] at hf
        have := of_decide_eq_true hf.2
        omega
      · split at hf
        · simp only [Bool.and_eq_true] at hf
          have h1 := of_decide_eq_true hf.1.1
          have h2 := of_decide_eq_true hf.2
          have hn : ms.Nodup := List.pairwise_iff_getElem.2 fun i j hi hj hij e => by
            have h3 := h2 j hj
            have h4 := inI_yes (xs := ms) (i := j) (k := i) (v := ith ms j) hij (by rw [ith_eq hi, ith_eq hj]; exact e)
            rw [h3] at h4
            cases h4
          have := nodup_len c.toNat ms hn fun x hx => by
            obtain ⟨i, hi, e⟩ := List.getElem_of_mem hx
            have h3 := h1 i hi
            rw [ith_eq hi, e] at h3
            exact ⟨h3.1, by omega⟩
          omega
        · cases hf
    · cases h
  · cases h
theorem VR.marks {kd : Nat} {cn : Int} {rs : List RwQ} (h : VR kd cn rs) : ∀ r ∈ rs, r.ms.length ≤ 1099511627776 := fun r hr => by have := ballC_len (h.fine r hr); omega
/-- What Add answers. -/
def RetAdd (w : World) (cn : Int) (kd : Nat) (rs : List RwQ) : Ending → World → Prop := fun e w' =>
  ((rs.length ≤ 64 ∧ ∃ a c, e = .returned (.tuple #[.agg #[.int .i64 cn, .int .u8 ((kd : Nat) : Int), .slice a rs.length c], .int .i64 0]) ∧ Ow2 (rowO w.heap.size w') 92 w.heap.size w' a rs.length c rs) ∨
   (64 < rs.length ∧ e = .returned (.tuple #[.agg #[.int .i64 0, .int .u8 0, .slice none 0 0], .int .i64 9]))) ∧ Below w.heap.size w w'
theorem PRow.keepLo {t : TypeId} {wb w w' : World} {G k base : Nat} {cs : Array Value} (h : PRow t wb w k cs) (hk : KeepG base G w w') (h1 : k < base) (h2 : k ≠ G) (hb : Below wb.heap.size wb w') : PRow t wb w' k cs := by
  have e := (hk k h1 h2).trans h.row
  exact ⟨hb, e, h.lo, (Array.getElem?_eq_some_iff.1 e).1⟩
set_option maxRecDepth 100000 in
set_option maxHeartbeats 4000000 in
theorem Add_any (w : World) (cn : Int) (hc1 : 1 ≤ cn) (hc2 : cn ≤ 10) (kd : Nat) (hk1 : 1 ≤ kd) (hk2 : kd ≤ 3) {a_r : Option Addr} {n_r c_r : Nat} {rs : List RwQ} (h_r : RdR w a_r n_r c_r rs) (hV : VR kd cn rs) (hlen : rs.length ≤ 64) (hs999 : sumR rs ≤ 999) {a_m : Option Addr} {n_m c_m : Nat} {m : List Int} (h_m : RdI w a_m n_m c_m m) (hbf : ballC kd m cn = 0) : Calls Try.prog 32 #[.agg #[.int .i64 cn, .int .u8 ((kd : Nat) : Int), .slice a_r n_r c_r], .agg #[.int .u8 ((kd : Nat) : Int), .slice a_m n_m c_m], .int .i64 1] w (RetAdd w cn kd (addR rs m)) := by
  have HRW := Lib.hid h_r
  have HV := Lib.hid hV
  have HL := Lib.hid h_r.len
  have HBF := Lib.hid hbf
  have HVM := Lib.hid (hV.more hbf hs999)
  have hnr : n_r ≤ 1099511627776 := by have := h_r.len; omega
  have hmm : n_m ≤ 1099511627776 := by have := ballC_len hbf; have := h_m.len; omega
  clear hV h_r hbf
  have B0 : Below w.heap.size w w := Below.refl _ _
  have h_m_0 := h_m
  go_enter Try.func32, Try.ntmps32
  have hb := below_al w (.cells #[.int .i64 cn, .int .u8 ((kd : Nat) : Int), .slice a_r n_r c_r] 51)
  have B1 := B0.trans (hb.mono B0.size)
  have h_m_1 := h_m_0.below hb
  clear hb B0 h_m_0
  have h_p_1 := PRow.new 51 w #[.int .i64 cn, .int .u8 ((kd : Nat) : Int), .slice a_r n_r c_r]
  have hb := below_al (w.alloc (.cells #[.int .i64 cn, .int .u8 ((kd : Nat) : Int), .slice a_r n_r c_r] 51)) (.cells #[.int .u8 ((kd : Nat) : Int), .slice a_m n_m c_m] 37)
  have B2 := B1.trans (hb.mono B1.size)
  have h_m_2 := h_m_1.below hb
  have h_p_2 := h_p_1.later hb
  clear hb B1 h_m_1 h_p_1
  have h_b_2 := PRow.new 37 (w.alloc (.cells #[.int .i64 cn, .int .u8 ((kd : Nat) : Int), .slice a_r n_r c_r] 51)) #[.int .u8 ((kd : Nat) : Int), .slice a_m n_m c_m]
  simp only [World.size_alloc] at h_b_2
  have hb := below_al ((w.alloc (.cells #[.int .i64 cn, .int .u8 ((kd : Nat) : Int), .slice a_r n_r c_r] 51)).alloc (.cells #[.int .u8 ((kd : Nat) : Int), .slice a_m n_m c_m] 37)) (.cells #[.int .i64 0, .int .u8 0, .slice none 0 0] 51)
  have B3 := B2.trans (hb.mono B2.size)
  have h_m_3 := h_m_2.below hb
  have h_p_3 := h_p_2.later hb
  have h_b_3 := h_b_2.later hb
  clear hb B2 h_m_2 h_p_2 h_b_2
  have h_o_3 := PRow.new 51 ((w.alloc (.cells #[.int .i64 cn, .int .u8 ((kd : Nat) : Int), .slice a_r n_r c_r] 51)).alloc (.cells #[.int .u8 ((kd : Nat) : Int), .slice a_m n_m c_m] 37)) #[.int .i64 0, .int .u8 0, .slice none 0 0]
  simp only [World.size_alloc] at h_o_3
  have h_b_3 := h_b_3.base (below_al w _)
  have h_o_3 := h_o_3.base ((below_al w _).trans ((below_al _ _).mono (below_al w _).size))
  have k_p_0 := h_p_3.cell 0 _ rfl
  have k_p_1 := h_p_3.cell 1 _ rfl
  have k_p_2 := h_p_3.cell 2 _ rfl
  have k_b_0 := h_b_3.cell 0 _ rfl
  have k_b_1 := h_b_3.cell 1 _ rfl
  go_wp2_with fail
  clear k_p_0 k_p_1 k_p_2 k_b_0 k_b_1
  generalize (((w.alloc (.cells #[.int .i64 cn, .int .u8 ((kd : Nat) : Int), .slice a_r n_r c_r] 51)).alloc (.cells #[.int .u8 ((kd : Nat) : Int), .slice a_m n_m c_m] 37)).alloc (.cells #[.int .i64 0, .int .u8 0, .slice none 0 0] 51)) = w3 at *
  have c := mayAdd_any w3 cn hc1 hc2 kd hk1 hk2 (HRW.out.below rowE_lasts B3) HV.out hlen h_m_3 HBF.out
  refine c.mono ?_
  rintro e w4 ⟨rfl, hb⟩
  clear c
  have B4 := B3.trans (hb.mono B3.size)
  have h_m_4 := h_m_3.below hb
  have h_p_4 := h_p_3.later hb
  have h_b_4 := h_b_3.later hb
  have h_o_4 := h_o_3.later hb
  clear hb B3 h_m_3 h_p_3 h_b_3 h_o_3
  have k_p_0 := h_p_4.cell 0 _ rfl
  have k_p_1 := h_p_4.cell 1 _ rfl
  have k_p_2 := h_p_4.cell 2 _ rfl
  have k_b_0 := h_b_4.cell 0 _ rfl
  have k_b_1 := h_b_4.cell 1 _ rfl
  go_wp2_with fail
  clear k_p_0 k_p_1 k_p_2 k_b_0 k_b_1
  have HS3 := Lib.hid (show w.heap.size + 3 ≤ w4.heap.size from h_o_4.lt)
  refine (twinR_any w4 cn kd (HRW.out.below rowE_lasts B4) hnr HV.out.marks).mono ?_
  rintro e wt ⟨at0, ct, rfl, hO, hb⟩
  have HSZ := Lib.hid hb.size
  have B5 := B4.trans (hb.mono B4.size)
  have h_m_5 := h_m_4.below hb
  have h_p_5 := h_p_4.later hb
  have h_b_5 := h_b_4.later hb
  have h_o_5 := h_o_4.later hb
  clear hb B4 h_m_4 h_p_4 h_b_4 h_o_4
  have R := h_p_5
  have HO := Lib.hid hO
  clear hO
  go_upto_region 5 with (first | refine wpList_store_whole rfl 51 _ _ rfl atPrf _ _ _ R.row rfl rfl rfl rfl (prf_one _ _ _ _ _) ?_)
  have HOs := Lib.hid (ow2_setRow HO.out R.row (by decide) (by decide) #[.int .i64 cn, .int .u8 ((kd : Nat) : Int), .slice at0 n_r ct])
  have P2 := R.put #[.int .i64 cn, .int .u8 ((kd : Nat) : Int), .slice at0 n_r ct]
  have b2 := h_b_5.row2 (g := w.heap.size) (by omega) (Nat.le_refl _) #[.int .i64 cn, .int .u8 ((kd : Nat) : Int), .slice at0 n_r ct]
  have o2 := h_o_5.row2 (g := w.heap.size) (by omega) (Nat.le_refl _) #[.int .i64 cn, .int .u8 ((kd : Nat) : Int), .slice at0 n_r ct]
  have hsz2 : w4.heap.size ≤ (wt.setRow w.heap.size #[.int .i64 cn, .int .u8 ((kd : Nat) : Int), .slice at0 n_r ct]).heap.size := by rw [setRow_size]; exact HSZ.out
  clear R h_p_5 h_b_5 h_o_5 HO B5 h_m_5
  generalize wt.setRow w.heap.size #[.int .i64 cn, .int .u8 ((kd : Nat) : Int), .slice at0 n_r ct] = wu at *
  have HMU := Lib.hid (h_m.below P2.below)
  have k_b_1 := b2.cell 1 _ rfl
  go_wp2_with fail
  clear k_b_1
  have c := put_any wu (wb := w) (base := w4.heap.size) cn kd (by omega) P2 (HOs.out) hsz2 (by have := HS3.out; omega) hnr HV.out.rise HV.out.le HMU.out hmm
  refine c.mono ?_
  rintro e wv ⟨rfl, av, cv, P3, hO3, hk3⟩
  clear c
  have o3 := o2.keepLo hk3 (by have := HS3.out; omega) (by omega) P3.below
  have HO3 := Lib.hid hO3
  clear P2 HOs b2 o2 hO3 hk3
  have k_p_0 := P3.cell 0 _ rfl
  have k_p_1 := P3.cell 1 _ rfl
  have k_p_2 := P3.cell 2 _ rfl
  go_wp2_with fail
  clear k_p_0 k_p_1 k_p_2
  have HS4 := Lib.hid (show w4.heap.size ≤ w4.heap.size from Nat.le_refl _)
  refine (whole_any wv cn hc1 hc2 kd hk1 hk2 (HO3.out.rd fun x u v h => h.rd) HVM.out).mono ?_
  rintro e wx ⟨rfl, hb⟩
  have P4 := P3.later hb
  have o4 := o3.later hb
  have HO4 := Lib.hid (show Ow2 (rowO w4.heap.size wx) 92 w4.heap.size wx av _ cv (addR rs m) from (HO3.out.below hb).mono fun x u v h => h.below hb)
  clear hb P3 o3 HO3
  by_cases hbig : 64 < (addR rs m).length
  case pos =>
    have HF := Lib.hid (show chkF (addR rs m) = 9 by unfold chkF; rw [if_pos hbig])
    rw [HF.out]
    unfold wholeV
    rw [if_neg (by decide)]
    go_wp2_with first | refine wpList_store_whole rfl 51 _ _ rfl atPrf _ _ _ o4.row rfl rfl rfl rfl (prf_one _ _ _ _ _) ?_
    refine bodyPost_ret (results_cell_two rfl _ _ _ _ _ _ _ rfl (setRow_heap _ _ _ _ _ _ o4.row) Try.underlying51 rfl (by kernel_rfl) _ rfl) rfl ?_
    exact ⟨.inr ⟨hbig, rfl⟩, (o4.put _).below⟩
  case neg =>
    have HF := Lib.hid (show chkF (addR rs m) = 0 by unfold chkF; rw [if_neg hbig])
    rw [HF.out]
    unfold wholeV
    rw [if_pos rfl]
    go_wp2_with first | refine wpList_store_whole rfl 51 _ _ rfl atPrf _ _ _ o4.row rfl rfl rfl rfl (prf_one _ _ _ _ _) ?_
    refine bodyPost_ret (results_cell_two rfl _ _ _ _ _ _ _ rfl (setRow_heap _ _ _ _ _ _ o4.row) Try.underlying51 rfl (by kernel_rfl) _ rfl) rfl ?_
    have hle : w.heap.size ≤ w4.heap.size := by have := HS3.out; omega
    have H5 := (ow2_setRow HO4.out o4.row (by decide) (by decide) #[.int .i64 cn, .int .u8 ((kd : Nat) : Int), .slice av (addR rs m).length cv]).base_le hle
    exact ⟨.inl ⟨by omega, av, cv, rfl, H5.mono fun x u v h => h.base_le hle⟩, (o4.put _).below⟩

set_option maxRecDepth 100000 in
set_option maxHeartbeats 4000000 in
theorem SameP_any (w : World) (cn : Int) (kd : Nat) (hkd : kd < 256) {a_r : Option Addr} {n_r c_r : Nat} {rs : List RwQ} (h_r : RdR w a_r n_r c_r rs) {a_q : Option Addr} {n_q c_q : Nat} (h_q : RdR w a_q n_q c_q rs) : Calls Try.prog 13 #[.agg #[.int .i64 cn, .int .u8 ((kd : Nat) : Int), .slice a_r n_r c_r], .agg #[.int .i64 cn, .int .u8 ((kd : Nat) : Int), .slice a_q n_q c_q]] w (fun e w' => e = .returned (.bool true) ∧ Below w.heap.size w w') := by
  have e1 : decide (cn = cn) = true := decide_eq_true rfl
  have e2 : (cn == cn) = true := by simp
  have e3 : (((kd : Nat) : Int) == ((kd : Nat) : Int)) = true := by simp
  have B0 : Below w.heap.size w w := Below.refl _ _
  have h_r_0 := h_r
  have h_q_0 := h_q
  go_enter Try.func13, Try.ntmps13
  have hb := below_al w (.cells #[.int .i64 cn, .int .u8 ((kd : Nat) : Int), .slice a_r n_r c_r] 51)
  have B1 := B0.trans (hb.mono B0.size)
  have h_r_1 := h_r_0.below rowE_lasts hb
  have h_q_1 := h_q_0.below rowE_lasts hb
  clear hb B0 h_r_0 h_q_0
  have h_p_1 := PRow.new 51 w #[.int .i64 cn, .int .u8 ((kd : Nat) : Int), .slice a_r n_r c_r]
  have hb := below_al (w.alloc (.cells #[.int .i64 cn, .int .u8 ((kd : Nat) : Int), .slice a_r n_r c_r] 51)) (.cells #[.int .i64 cn, .int .u8 ((kd : Nat) : Int), .slice a_q n_q c_q] 51)
  have B2 := B1.trans (hb.mono B1.size)
  have h_r_2 := h_r_1.below rowE_lasts hb
  have h_q_2 := h_q_1.below rowE_lasts hb
  have h_p_2 := h_p_1.later hb
  clear hb B1 h_r_1 h_q_1 h_p_1
  have h_t_2 := PRow.new 51 (w.alloc (.cells #[.int .i64 cn, .int .u8 ((kd : Nat) : Int), .slice a_r n_r c_r] 51)) #[.int .i64 cn, .int .u8 ((kd : Nat) : Int), .slice a_q n_q c_q]
  simp only [World.size_alloc] at h_t_2
  have k_p_0 := h_p_2.cell 0 _ rfl
  have k_p_1 := h_p_2.cell 1 _ rfl
  have k_p_2 := h_p_2.cell 2 _ rfl
  have k_t_0 := h_t_2.cell 0 _ rfl
  have k_t_1 := h_t_2.cell 1 _ rfl
  have k_t_2 := h_t_2.cell 2 _ rfl
  go_wp2_with fail
  clear k_p_0 k_p_1 k_p_2 k_t_0 k_t_1 k_t_2
  generalize ((w.alloc (.cells #[.int .i64 cn, .int .u8 ((kd : Nat) : Int), .slice a_r n_r c_r] 51)).alloc (.cells #[.int .i64 cn, .int .u8 ((kd : Nat) : Int), .slice a_q n_q c_q] 51)) = w2 at *
  have c := equalRows_any w2 h_r_2 h_q_2
  rw [show decide (rs = rs) = true from decide_eq_true rfl] at c
  refine c.mono ?_
  rintro e w3 ⟨rfl, hb⟩
  clear c
  have B3 := B2.trans (hb.mono B2.size)
  have h_r_3 := h_r_2.below rowE_lasts hb
  have h_q_3 := h_q_2.below rowE_lasts hb
  have h_p_3 := h_p_2.later hb
  have h_t_3 := h_t_2.later hb
  clear hb B2 h_r_2 h_q_2 h_p_2 h_t_2
  go_wp2_with fail
  go_ret
  exact ⟨rfl, B3⟩

end Go.Proofs.Ythpjnbnheagpiaa
/- Profiles: Make. Conditions: at most 1,000 ballots, all valid. Printed by gen_topn.py. -/
namespace Go.Proofs.Ythpjnbnheagpiaa
open Go.RowKit Go.Suf
set_option linter.unusedVariables false
set_option linter.unusedSimpArgs false

/-- The ballots fit. -/
def FitL (kd : Nat) (cn : Int) (bs : List BQ) : Prop := ∀ b ∈ bs, b.kd = kd ∧ ballC kd b.ms cn = 0
theorem FitL.vr {kd : Nat} {cn : Int} {bs : List BQ} (h : FitL kd cn bs) (i : Nat) (hl : bs.length ≤ 1000) : VR kd cn (rowsL ((bs.take i).map BQ.ms)) := VR.rows _ (fun m hm => by
  obtain ⟨b, hb, e⟩ := List.mem_map.1 hm
  rw [← e]
  exact (h b (List.mem_of_mem_take hb)).2) (by rw [List.length_map, List.length_take]; omega)
theorem rowsL_take {bs : List BQ} {i : Nat} {x : BQ} (h : bs[i]? = some x) : rowsL ((bs.take (i + 1)).map BQ.ms) = addR (rowsL ((bs.take i).map BQ.ms)) x.ms := by
  obtain ⟨hi, e⟩ := List.getElem?_eq_some_iff.1 h
  rw [List.take_succ_eq_append_getElem hi, List.map_append, e]
  exact rowsL_snoc _ _
theorem rowsL_upto (bs : List BQ) (i : Nat) : (rowsL ((bs.take i).map BQ.ms)).length ≤ (rowsL (bs.map BQ.ms)).length := by
  have h := rowsL_grow ((bs.take i).map BQ.ms) ((bs.drop i).map BQ.ms)
  rwa [← List.map_append, List.take_append_drop] at h
set_option maxRecDepth 100000 in
set_option maxHeartbeats 4000000 in
theorem Make_any (w : World) (cn : Int) (hc1 : 1 ≤ cn) (hc2 : cn ≤ 10) (kd : Nat) (hk1 : 1 ≤ kd) (hk2 : kd ≤ 3) {a_l : Option Addr} {n_l c_l : Nat} {bs : List BQ} (h_l : RdQ w a_l n_l c_l bs) (hn : n_l ≤ 1000) (hfit : FitL kd cn bs) : Calls Try.prog 12 #[.int .i64 cn, .int .u8 ((kd : Nat) : Int), .slice a_l n_l c_l] w (RetAdd w cn kd (rowsL (bs.map BQ.ms))) := by
  have HRQ := Lib.hid h_l
  have HL := Lib.hid h_l.len
  have hn0 := h_l.lt
  have HFT := Lib.hid hfit
  clear hfit h_l
  have B0 : Below w.heap.size w w := Below.refl _ _
  go_enter Try.func12, Try.ntmps12
  have hb := below_al w (.cells #[.int .i64 0, .int .u8 0, .slice none 0 0] 51)
  have B1 := B0.trans (hb.mono B0.size)
  clear hb B0
  have h_o_1 := PRow.new 51 w #[.int .i64 0, .int .u8 0, .slice none 0 0]
  have HOB := Lib.hid B1
  go_wp2_with fail
  generalize (w.alloc (.cells #[.int .i64 0, .int .u8 0, .slice none 0 0] 51)) = w1 at *
  have c := New_any w1 cn hc1 hc2 kd hk1 hk2
  refine c.mono ?_
  rintro e w2 ⟨rfl, hb⟩
  clear c
  have B2 := B1.trans (hb.mono B1.size)
  have h_o_2 := h_o_1.later hb
  clear hb B1 h_o_1
  have HOB := Lib.hid B2
  have HPB := Lib.hid (show w2.heap.size ≠ w.heap.size from by have := h_o_2.lt; omega)
  have hb := below_al w2 (.cells #[.int .i64 cn, .int .u8 ((kd : Nat) : Int), .slice none 0 0] 51)
  have B3 := B2.trans (hb.mono B2.size)
  have h_o_3 := h_o_2.later hb
  clear hb B2 h_o_2
  have h_p_3 := (PRow.new 51 w2 #[.int .i64 cn, .int .u8 ((kd : Nat) : Int), .slice none 0 0]).base HOB.out
  go_wp2_with first | refine wpList_store_new rfl 51 _ _ rfl atPrf _ _ _ rfl rfl rfl rfl (prf_one _ _ _ _ _) ?_
  generalize (w2.alloc (.cells #[.int .i64 cn, .int .u8 ((kd : Nat) : Int), .slice none 0 0] 51)) = w3 at *
  obtain ⟨gp, hgp⟩ : ∃ gp, w2.heap.size = gp := ⟨_, rfl⟩
  rw [hgp] at h_p_3 HPB ⊢
  clear hgp
  have HO0 := Lib.hid (show Ow2 (rowO w.heap.size w3) 92 w.heap.size w3 none 0 0 (rowsL ((bs.take 0).map BQ.ms)) from by simpa [rowsL] using Ow2.nil (rowO w.heap.size w3) 92 w.heap.size w3)
  go_loopw [9, 20] (fun v9 v20 wr => ∃ (i : Nat), i ≤ n_l ∧ v20 = .int .i64 (i : Nat) ∧ PRow 51 w wr w.heap.size #[.int .i64 0, .int .u8 0, .slice none 0 0] ∧
    ((v9 = .int .i64 0 ∧ (rowsL ((bs.take i).map BQ.ms)).length ≤ 64 ∧ ∃ a c, PRow 51 w wr gp #[.int .i64 cn, .int .u8 ((kd : Nat) : Int), .slice a (rowsL ((bs.take i).map BQ.ms)).length c] ∧ Hid (Ow2 (rowO w.heap.size wr) 92 w.heap.size wr a (rowsL ((bs.take i).map BQ.ms)).length c (rowsL ((bs.take i).map BQ.ms)))) ∨
     (v9 = .int .i64 9 ∧ 64 < (rowsL ((bs.take i).map BQ.ms)).length ∧ PRow 51 w wr gp #[.int .i64 0, .int .u8 0, .slice none 0 0]))) (fun _ v20 _ => n_l - (intOf v20).toNat)
  case atStart => exact ⟨0, Nat.zero_le _, rfl, h_o_3, .inl ⟨rfl, by simp [rowsL], none, 0, by simpa [rowsL] using h_p_3, by simpa [rowsL] using HO0⟩⟩
  clear h_o_3 h_p_3 HO0 B3
  case round =>
    rename World => wr
    obtain ⟨i, hi, rfl, O, hs⟩ := hrel
    by_cases hlt : i < n_l
    case neg =>
      obtain rfl : n_l = i := by omega
      rcases hs with ⟨rfl, hle, a, c, P, HO⟩ | ⟨rfl, hbig, P⟩
      · have htk : bs.take n_l = bs := List.take_of_length_le (by rw [HL.out]; exact Nat.le_refl _)
        rw [htk] at P HO hle
        have k0 := P.cell 0 _ rfl
        have k1 := P.cell 1 _ rfl
        have k2 := P.cell 2 _ rfl
        clear htk
        obtain ⟨rr, hrr⟩ : ∃ rr, rowsL (bs.map BQ.ms) = rr := ⟨_, rfl⟩
        rw [hrr] at k2 HO hle P
        have HRR := Lib.hid hrr
        clear hrr
        go_wp2_with first | refine wpList_store_whole rfl 51 _ _ rfl atPrf _ _ _ O.row rfl rfl rfl rfl (prf_one _ _ _ _ _) ?_
        refine bodyPost_ret (results_cell_two rfl _ _ _ _ _ _ _ rfl (setRow_heap _ _ _ _ _ _ O.row) Try.underlying51 rfl (by kernel_rfl) _ rfl) rfl ?_
        have hrr := HRR.out
        subst hrr
        exact ⟨.inl ⟨hle, a, c, rfl, ow2_setRow HO.out O.row (by decide) (by decide) _⟩, (O.put _).below⟩
      · have HBIG := Lib.hid (Nat.lt_of_lt_of_le hbig (rowsL_upto bs _))
        have k0 := P.cell 0 _ rfl
        have k1 := P.cell 1 _ rfl
        have k2 := P.cell 2 _ rfl
        clear hbig
        go_wp2_with first | refine wpList_store_whole rfl 51 _ _ rfl atPrf _ _ _ O.row rfl rfl rfl rfl (prf_one _ _ _ _ _) ?_
        refine bodyPost_ret (results_cell_two rfl _ _ _ _ _ _ _ rfl (setRow_heap _ _ _ _ _ _ O.row) Try.underlying51 rfl (by kernel_rfl) _ rfl) rfl ?_
        exact ⟨.inr ⟨HBIG.out, rfl⟩, (O.put _).below⟩
    obtain ⟨x, hx⟩ : ∃ x, bs[i]? = some x := ⟨_, List.getElem?_eq_getElem (by rw [HL.out]; exact hlt)⟩
    obtain ⟨hkx, hbx⟩ := HFT.out x (List.mem_of_getElem? hx)
    obtain ⟨bb, oo, rfl, hcc⟩ := HRQ.out.addr (by omega)
    obtain ⟨u1, v1, t0, t1, rfl, -, a_m, n_m, c_m, rfl, h_m⟩ := hcc i x hx
    rw [hkx] at t0
    have T0 := cell_below O.below t0
    have T1 := cell_below O.below t1
    have HBX := Lib.hid hbx
    have HXM := Lib.hid h_m
    have HTK := Lib.hid (rowsL_take hx)
    clear hcc t0 t1 hbx h_m hx hkx
    have hal := below_al wr (.cells #[.int .u8 ((kd : Nat) : Int), .slice a_m n_m c_m] 37)
    have hbq := (PRow.new 37 wr #[.int .u8 ((kd : Nat) : Int), .slice a_m n_m c_m]).base O.below
    have O1 := O.later hal
    rcases hs with ⟨rfl, hle, a, c, P, HO⟩ | ⟨rfl, hbig, P⟩
    case inr =>
      have P1 := P.later hal
      go_upto_region 5 with (first | refine wpList_store_new rfl 37 _ _ rfl atBal _ _ _ rfl rfl rfl rfl (bal_one _ _ _ _) ?_)
      clear T0 T1 hal hbq P O
      generalize wr.alloc (.cells #[.int .u8 ((kd : Nat) : Int), .slice a_m n_m c_m] 37) = wa at *
      have HBIG := Lib.hid (Nat.lt_of_lt_of_le hbig (rowsL_upto bs _))
      have k0 := P1.cell 0 _ rfl
      have k1 := P1.cell 1 _ rfl
      have k2 := P1.cell 2 _ rfl
      clear hbig
      go_wp2_with first | refine wpList_store_whole rfl 51 _ _ rfl atPrf _ _ _ O1.row rfl rfl rfl rfl (prf_one _ _ _ _ _) ?_
      refine bodyPost_ret (results_cell_two rfl _ _ _ _ _ _ _ rfl (setRow_heap _ _ _ _ _ _ O1.row) Try.underlying51 rfl (by kernel_rfl) _ rfl) rfl ?_
      exact ⟨.inr ⟨HBIG.out, rfl⟩, (O1.put _).below⟩
    case inl =>
      have P1 := P.later hal
      have HO1 := Lib.hid ((HO.out.below hal).mono (F' := rowO w.heap.size (wr.alloc (.cells #[.int .u8 ((kd : Nat) : Int), .slice a_m n_m c_m] 37))) fun x u v h => h.below hal)
      obtain ⟨rr, hrr⟩ : ∃ rr, rowsL ((bs.take i).map BQ.ms) = rr := ⟨_, rfl⟩
      have HVR := Lib.hid (HFT.out.vr (cn := cn) i (by rw [HL.out]; exact hn))
      have HSM := Lib.hid (show sumR (rowsL ((bs.take i).map BQ.ms)) ≤ 999 from by rw [sumR_rows, List.length_map, List.length_take]; omega)
      rw [hrr] at P1 HO1 hle HTK HVR HSM
      clear hrr P HO
      go_upto_region 5 with (first | refine wpList_store_new rfl 37 _ _ rfl atBal _ _ _ rfl rfl rfl rfl (bal_one _ _ _ _) ?_)
      clear T0 T1 O
      obtain ⟨gb, hgb⟩ : ∃ gb, wr.heap.size = gb := ⟨_, rfl⟩
      rw [hgb] at hbq ⊢
      clear hgb hal
      generalize wr.alloc (.cells #[.int .u8 ((kd : Nat) : Int), .slice a_m n_m c_m] 37) = wa at *
      have k0 := P1.cell 0 _ rfl
      have k1 := P1.cell 1 _ rfl
      have k2 := P1.cell 2 _ rfl
      have q0 := hbq.cell 0 _ rfl
      have q1 := hbq.cell 1 _ rfl
      go_wp2_with fail
      clear k0 k1 k2 q0 q1
      have HSZ := Lib.hid (show w.heap.size ≤ wa.heap.size from O1.below.size)
      refine (Add_any wa cn hc1 hc2 kd hk1 hk2 (HO1.out.rd fun x u v h => h.rd) HVR.out hle HSM.out (HXM.out.below O1.below) HBX.out).mono ?_
      rintro e wb ⟨hor, hb⟩
      have P2 := P1.later hb
      have O2 := O1.later hb
      clear P1 O1 HO1 hbq hb
      rcases hor with ⟨hle2, a2, c2, rfl, hO2⟩ | ⟨hbig, rfl⟩
      case inl =>
        have HO2 := Lib.hid hO2
        clear hO2
        go_wp2_with first | refine wpList_store_whole rfl 51 _ _ rfl atPrf _ _ _ P2.row rfl rfl rfl rfl (prf_one _ _ _ _ _) ?_
        have P3 := P2.put #[.int .i64 cn, .int .u8 ((kd : Nat) : Int), .slice a2 (addR rr x.ms).length c2]
        have O3 := O2.row2 (g := gp) (Ne.symm HPB.out) P2.lo #[.int .i64 cn, .int .u8 ((kd : Nat) : Int), .slice a2 (addR rr x.ms).length c2]
        have HO3 := Lib.hid (((ow2_setRow HO2.out P2.row (by decide) (by decide) #[.int .i64 cn, .int .u8 ((kd : Nat) : Int), .slice a2 (addR rr x.ms).length c2]).base_le HSZ.out).mono fun x u v h => h.base_le HSZ.out)
        clear P2 O2 HO2
        go_roundw
        case rel => exact ⟨i + 1, by omega, by go_num, O3, .inl (by rw [HTK.out]; exact ⟨rfl, hle2, a2, c2, P3, HO3⟩)⟩
        case measure => simp [intOf]; omega
      case inr =>
        go_wp2_with first | refine wpList_store_whole rfl 51 _ _ rfl atPrf _ _ _ P2.row rfl rfl rfl rfl (prf_one _ _ _ _ _) ?_
        have P3 := P2.put #[.int .i64 0, .int .u8 0, .slice none 0 0]
        have O3 := O2.row2 (g := gp) (Ne.symm HPB.out) P2.lo #[.int .i64 0, .int .u8 0, .slice none 0 0]
        clear P2 O2
        rw [← HTK.out] at hbig
        go_roundw
        case rel => exact ⟨i + 1, by omega, by go_num, O3, .inr ⟨rfl, hbig, P3⟩⟩
        case measure => simp [intOf]; omega

end Go.Proofs.Ythpjnbnheagpiaa
