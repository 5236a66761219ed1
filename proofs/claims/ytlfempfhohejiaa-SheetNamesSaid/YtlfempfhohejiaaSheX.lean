/- The chapter's example holds. No condition. Printed by gen_shex.py. -/
import Derived.Test.YtlfempfhohejiaaSheU
import Derived.Test.YtlfempfhohejiaaSheG
import Derived.Test.YtlfempfhohejiaaSheW
import Derived.Test.YtlfempfhohejiaaSheV
namespace Go.Proofs.Ytlfempfhohejiaa
open Go.RowKit Go.Suf
set_option linter.unusedVariables false
set_option linter.unusedSimpArgs false

theorem rdI_lit (w : World) (xs : List Int) (hm : xs.length ≤ maxLen) (hx : ∀ x ∈ xs, okI x) : RdI (w.alloc (.cells (xs.map encI).toArray 3)) (some ⟨w.heap.size, 0, none⟩) xs.length xs.length xs := by
  have h := sl_lit w (xs.map encI) 3 (enc_one oneI xs) (by simpa using hm)
  simp only [List.length_map] at h
  exact ⟨rfl, h, hx⟩
theorem eqS_ne {a b : ByteArray} (h : a.data.toList ≠ b.data.toList) : eqS a b = false := by
  cases e : eqS a b
  · rfl
  · exact absurd (congrArg (fun x : ByteArray => x.data.toList) (eqS_iff.1 e)) h
theorem check3 (rule : Nat) (hf : fitsC 3 1 rule = true) : checkC xS [aS, bS, cS] 1 rule = 0 := by
  have h2 : twiceL [aS, bS, cS] = false := twice_none fun i hi => by
    obtain rfl | rfl | rfl : i = 0 ∨ i = 1 ∨ i = 2 := by simp at hi; omega
    · rfl
    · show (eqS bS aS || false) = false
      rw [eqS_ne (by decide)]
      rfl
    · show (eqS cS aS || (eqS cS bS || false)) = false
      rw [eqS_ne (by decide), eqS_ne (by decide)]
      rfl
  unfold checkC
  rw [h2, show oddL [xS] = false from by kernel_rfl, show oddL [aS, bS, cS] = false from by kernel_rfl, show fitsC [aS, bS, cS].length 1 rule = true from hf]
  simp
theorem sheet3 (rule : Nat) (xs : List Nat) (hf : fitsC 3 1 rule = true) (h : decide (xs.length = boxesN [aS, bS, cS] rule ∧ (xs.any fun x => decide (100 < x)) = false) = true) : sheetC xS [aS, bS, cS] 1 rule xs = 0 := by
  unfold sheetC
  rw [if_pos (check3 rule hf), if_pos (of_decide_eq_true h)]
abbrev abcS : List ByteArray := [aS, bS, cS]
theorem alive1 : readR xS abcS 1 9 ⟨20, 60, 0⟩ box3 [] = (⟨1, [1, 0], 0, [8]⟩, 0) := by
  rw [readR_eq ⟨sheet3 9 box3 (by kernel_rfl) (by kernel_rfl), by kernel_rfl, by decide, by kernel_rfl⟩]
  kernel_rfl
theorem alive2 : readR xS abcS 1 9 ⟨20, 60, 0⟩ box3 [⟨8, true⟩] = (⟨1, [1, 0, 2], 0, []⟩, 0) := by
  rw [readR_eq ⟨sheet3 9 box3 (by kernel_rfl) (by kernel_rfl), by kernel_rfl, by decide, by kernel_rfl⟩]
  kernel_rfl
theorem setRow_three {w0 w : World} {t1 t2 t3 : TypeId} {g1 g2 g3 : Nat} {a1 a2 a3 : Array Value} (R1 : PRow t1 w0 w g1 a1) (R2 : PRow t2 w0 w g2 a2) (R3 : PRow t3 w0 w g3 a3) (h12 : g1 ≠ g2) (h13 : g1 ≠ g3) (h23 : g2 ≠ g3) (c1 c2 c3 : Array Value) :
    PRow t2 w0 (w.setRow g1 c1) g2 a2 ∧ PRow t3 w0 ((w.setRow g1 c1).setRow g2 c2) g3 a3 ∧ PRow t1 w0 (((w.setRow g1 c1).setRow g2 c2).setRow g3 c3) g1 c1 ∧ PRow t2 w0 (((w.setRow g1 c1).setRow g2 c2).setRow g3 c3) g2 c2 ∧ PRow t3 w0 (((w.setRow g1 c1).setRow g2 c2).setRow g3 c3) g3 c3 := by
  have S1 := R1.put c1
  have S2 := R2.row2 (Ne.symm h12) R1.lo c1
  have S3 := R3.row2 (Ne.symm h13) R1.lo c1
  have T1 := S1.row2 h12 R2.lo c2
  have T2 := S2.put c2
  have T3 := S3.row2 (Ne.symm h23) R2.lo c2
  exact ⟨S2, T3, T1.row2 h13 R3.lo c3, T2.row2 h23 R3.lo c3, T3.put c3⟩
theorem rdS_three {w : World} {a : Option Addr} {n c g1 g2 g3 : Nat} {ss : List ByteArray} (h : RdS w a n c ss) (hl : ∀ p, a = some p → p.block < g1 ∧ p.block < g2 ∧ p.block < g3) (c1 c2 c3 : Array Value) : RdS (((w.setRow g1 c1).setRow g2 c2).setRow g3 c3) a n c ss :=
  rdS_row2 (rdS_row2 (rdS_row2 h (fun p e => by have := hl p e; omega) c1) (fun p e => by have := hl p e; omega) c2) (fun p e => by have := hl p e; omega) c3
theorem rd_three {k : IntKind} {w : World} {a : Option Addr} {n c g1 g2 g3 : Nat} {xs : List Nat} (h : Rd k w a n c xs) (hl : ∀ p, a = some p → p.block < g1 ∧ p.block < g2 ∧ p.block < g3) (c1 c2 c3 : Array Value) : Rd k (((w.setRow g1 c1).setRow g2 c2).setRow g3 c3) a n c xs :=
  rd_row2 (rd_row2 (rd_row2 h (fun p e => by have := hl p e; omega) c1) (fun p e => by have := hl p e; omega) c2) (fun p e => by have := hl p e; omega) c3
theorem lt_of_cell {w : World} {b off : Nat} {v : Value} (h : w.cell? ⟨b, off, none⟩ = some v) : b < w.heap.size := by
  simp only [World.cell?] at h
  cases hh : w.heap[b]? with
  | none => rw [hh] at h; simp at h
  | some o => exact (Array.getElem?_eq_some_iff.1 hh).1
theorem rdS_addr {w : World} {a : Option Addr} {n c : Nat} {ss : List ByteArray} (h : RdS w a n c ss) (hp : 0 < n) : ∀ p, a = some p → p.block < w.heap.size := by
  rintro p rfl
  obtain ⟨b, off, e, hc⟩ := h.cell 0 hp
  simp only [Option.some.injEq] at e
  subst e
  exact lt_of_cell hc
theorem rd_addr {k : IntKind} {w : World} {a : Option Addr} {n c : Nat} {xs : List Nat} (h : Rd k w a n c xs) (hp : 0 < n) : ∀ p, a = some p → p.block < w.heap.size := by
  rintro p rfl
  obtain ⟨b, off, e, hc, -⟩ := h.cell 0 hp
  simp only [Option.some.injEq] at e
  subst e
  exact lt_of_cell hc
set_option maxRecDepth 100000 in
set_option maxHeartbeats 8000000 in
theorem alive_any (w : World) : Calls Try.prog 23 #[] w (fun e w' => e = .returned (.bool true) ∧ Below w.heap.size w w') := by
  have B0 : Below w.heap.size w w := Below.refl _ _
  go_enter Try.func23, Try.ntmps23
  go_wp2_with fail
  have c := three_any w
  refine c.mono ?_
  rintro e w1 ⟨a_s, a_x, rfl, h_s_1, h_x_1, hb⟩
  clear c
  have B1 := B0.trans (hb.mono B0.size)
  clear hb B0
  have hls := rdS_addr h_s_1 (by decide)
  have hlx := rd_addr h_x_1 (by decide)
  have R0 := (PRow.new 24 w1 #[Value.string ⟨#[]⟩, .slice none 0 0, .int .i64 0, .int .u8 0]).later (below_al (w1.alloc (.cells #[Value.string ⟨#[]⟩, .slice none 0 0, .int .i64 0, .int .u8 0] 24)) (.cells #[Value.int .u8 0, .int .u8 0, .int .i64 0] 48))
  have R1 := R0.later (below_al ((w1.alloc (.cells #[Value.string ⟨#[]⟩, .slice none 0 0, .int .i64 0, .int .u8 0] 24)).alloc (.cells #[Value.int .u8 0, .int .u8 0, .int .i64 0] 48)) (.cells #[Value.slice none 0 0] 27))
  have R2 := ((PRow.new 48 (w1.alloc (.cells #[Value.string ⟨#[]⟩, .slice none 0 0, .int .i64 0, .int .u8 0] 24)) #[Value.int .u8 0, .int .u8 0, .int .i64 0]).base (PRow.new 24 w1 #[Value.string ⟨#[]⟩, .slice none 0 0, .int .i64 0, .int .u8 0]).below).later (below_al ((w1.alloc (.cells #[Value.string ⟨#[]⟩, .slice none 0 0, .int .i64 0, .int .u8 0] 24)).alloc (.cells #[Value.int .u8 0, .int .u8 0, .int .i64 0] 48)) (.cells #[Value.slice none 0 0] 27))
  have R3 := (PRow.new 27 ((w1.alloc (.cells #[Value.string ⟨#[]⟩, .slice none 0 0, .int .i64 0, .int .u8 0] 24)).alloc (.cells #[Value.int .u8 0, .int .u8 0, .int .i64 0] 48)) #[Value.slice none 0 0]).base R0.below
  clear R0
  simp only [World.size_alloc] at R1 R2 R3
  obtain ⟨G, hG⟩ : ∃ G, w1.heap.size = G := ⟨_, rfl⟩
  rw [hG] at R1 R2 R3
  obtain ⟨S2, S3, V1, V2, V3⟩ := setRow_three R1 R2 R3 (by omega) (by omega) (by omega) #[Value.string xS, .slice a_s 3 3, .int .i64 1, .int .u8 9] #[Value.int .u8 20, .int .u8 60, .int .i64 0] #[Value.slice a_x 9 9]
  have hss := rdS_three (h_s_1.below R1.below) (g1 := G) (g2 := G + 1) (g3 := G + 1 + 1) (fun p e => by have := hls p e; omega) #[Value.string xS, .slice a_s 3 3, .int .i64 1, .int .u8 9] #[Value.int .u8 20, .int .u8 60, .int .i64 0] #[Value.slice a_x 9 9]
  have hxx := rd_three (h_x_1.below R1.below) (g1 := G) (g2 := G + 1) (g3 := G + 1 + 1) (fun p e => by have := hlx p e; omega) #[Value.string xS, .slice a_s 3 3, .int .i64 1, .int .u8 9] #[Value.int .u8 20, .int .u8 60, .int .i64 0] #[Value.slice a_x 9 9]
  have hb := V1.below
  clear hls hlx
  have B2 := B1.trans (hb.mono B1.size)
  clear hb B1
  have h_s_2 := hss
  have h_x_2 := hxx
  have h_c_2 := V1
  have h_p_2 := V2
  have h_y_2 := V3
  clear hss hxx V1 V2 V3
  replace h_s_2 := Lib.hid h_s_2
  replace h_x_2 := Lib.hid h_x_2
  go_wp2_with (refine wpList_store_whole rfl 24 _ _ rfl atCon _ _ _ R1.row rfl rfl rfl rfl (con_one _ _ _ _ _ _) ?_; refine Hid.out ?_)
  clear R1 R2 R3
  generalize (((w1.alloc (.cells #[Value.string ⟨#[]⟩, .slice none 0 0, .int .i64 0, .int .u8 0] 24)).alloc (.cells #[Value.int .u8 0, .int .u8 0, .int .i64 0] 48)).alloc (.cells #[Value.slice none 0 0] 27)).setRow G #[Value.string xS, .slice a_s 3 3, .int .i64 1, .int .u8 9] = wa at *
  refine Lib.hid ?_
  go_wp2_with (refine wpList_store_whole rfl 48 _ _ rfl atPol _ _ _ S2.row rfl rfl rfl rfl (pol_one _ _ _) ?_; refine Hid.out ?_)
  clear S2
  generalize wa.setRow (G + 1) #[Value.int .u8 20, .int .u8 60, .int .i64 0] = wb at *
  refine Lib.hid ?_
  go_wp2_with (refine wpList_store_whole rfl 27 _ _ rfl atShe _ _ _ S3.row rfl rfl rfl rfl (she_one _ _ _) ?_; refine Hid.out ?_)
  clear S3
  generalize wb.setRow (G + 1 + 1) #[Value.slice a_x 9 9] = w2 at *
  refine Lib.hid ?_
  replace h_s_2 := h_s_2.out
  replace h_x_2 := h_x_2.out
  clear hG
  obtain ⟨G1, hG1⟩ : ∃ G1, G + 1 = G1 := ⟨_, rfl⟩
  obtain ⟨G2, hG2⟩ : ∃ G2, G + 1 + 1 = G2 := ⟨_, rfl⟩
  rw [hG2] at h_y_2
  rw [hG1] at h_p_2
  rw [hG2, hG1]
  clear hG1 hG2
  have k_c_0 := h_c_2.cell 0 _ rfl
  have k_c_1 := h_c_2.cell 1 _ rfl
  have k_c_2 := h_c_2.cell 2 _ rfl
  have k_c_3 := h_c_2.cell 3 _ rfl
  have k_p_0 := h_p_2.cell 0 _ rfl
  have k_p_1 := h_p_2.cell 1 _ rfl
  have k_p_2 := h_p_2.cell 2 _ rfl
  have k_y_0 := h_y_2.cell 0 _ rfl
  go_wp2_with fail
  clear k_c_0 k_c_1 k_c_2 k_c_3 k_p_0 k_p_1 k_p_2 k_y_0
  have c := Read_any w2 xS h_s_2 1 (by decide) (by decide) 9 (by decide) ⟨20, 60, 0⟩ (by unfold PW okI; decide) h_x_2 (RdD.nils w2) (by decide) (by decide)
  rw [show readR xS [aS, bS, cS] 1 9 ⟨20, 60, 0⟩ box3 [] = (⟨1, [1, 0], 0, [8]⟩, 0) from alive1] at c
  refine c.mono ?_
  rintro e w3 ⟨a_a, n_a, c_a, b_a, m_a, d_a, rfl, h_am_3, h_ad_3, hap_a, hb⟩
  clear c
  have B3 := B2.trans (hb.mono B2.size)
  have h_s_3 := h_s_2.below hb
  have h_x_3 := h_x_2.below hb
  have h_c_3 := h_c_2.later hb
  have h_p_3 := h_p_2.later hb
  have h_y_3 := h_y_2.later hb
  clear hb B2 h_s_2 h_x_2 h_c_2 h_p_2 h_y_2
  replace hap_a := Lib.hid hap_a
  have hb := below_al w3 (.cells #[.int .u8 1, .slice a_a n_a c_a, .int .i64 0, .slice b_a m_a d_a] 51)
  have B4 := B3.trans (hb.mono B3.size)
  have h_s_4 := h_s_3.below hb
  have h_x_4 := h_x_3.below hb
  have h_c_4 := h_c_3.later hb
  have h_p_4 := h_p_3.later hb
  have h_y_4 := h_y_3.later hb
  have h_am_4 := h_am_3.below hb
  have h_ad_4 := h_ad_3.below hb
  clear hb B3 h_s_3 h_x_3 h_c_3 h_p_3 h_y_3 h_am_3 h_ad_3
  have h_ar_4 := PRow.new 51 w3 #[.int .u8 1, .slice a_a n_a c_a, .int .i64 0, .slice b_a m_a d_a]
  go_upto_region 3 with (first | refine wpList_store_new rfl 51 _ _ rfl atRea _ _ _ rfl rfl rfl rfl (rea_one _ _ _ _ _ _ _ _) ?_)
  generalize (w3.alloc (.cells #[.int .u8 1, .slice a_a n_a c_a, .int .i64 0, .slice b_a m_a d_a] 51)) = w4 at *
  have k_c_0 := h_c_4.cell 0 _ rfl
  have k_c_1 := h_c_4.cell 1 _ rfl
  have k_c_2 := h_c_4.cell 2 _ rfl
  have k_c_3 := h_c_4.cell 3 _ rfl
  have k_p_0 := h_p_4.cell 0 _ rfl
  have k_p_1 := h_p_4.cell 1 _ rfl
  have k_p_2 := h_p_4.cell 2 _ rfl
  have k_y_0 := h_y_4.cell 0 _ rfl
  have hb := below_al w4 (.cells #[.int .i64 8, .bool true] 58)
  have B5 := B4.trans (hb.mono B4.size)
  have h_s_5 := h_s_4.below hb
  have h_x_5 := h_x_4.below hb
  have h_c_5 := h_c_4.later hb
  have h_p_5 := h_p_4.later hb
  have h_y_5 := h_y_4.later hb
  have h_am_5 := h_am_4.below hb
  have h_ad_5 := h_ad_4.below hb
  have h_ar_5 := h_ar_4.later hb
  clear hb B4 h_s_4 h_x_4 h_c_4 h_p_4 h_y_4 h_am_4 h_ad_4 h_ar_4
  have h_l_5 := rdD_one w4 ⟨8, true⟩ (by unfold okI; decide)
  go_wp2_with fail
  clear k_c_0 k_c_1 k_c_2 k_c_3 k_p_0 k_p_1 k_p_2 k_y_0
  generalize (w4.alloc (.cells #[.int .i64 8, .bool true] 58)) = w5 at *
  have c := Read_any w5 xS h_s_5 1 (by decide) (by decide) 9 (by decide) ⟨20, 60, 0⟩ (by unfold PW okI; decide) h_x_5 h_l_5 (by decide) (by decide)
  rw [show readR xS [aS, bS, cS] 1 9 ⟨20, 60, 0⟩ box3 [⟨8, true⟩] = (⟨1, [1, 0, 2], 0, []⟩, 0) from alive2] at c
  refine c.mono ?_
  rintro e w6 ⟨a_b, n_b, c_b, b_b, m_b, d_b, rfl, h_bm_6, h_bd_6, hap_b, hb⟩
  clear c
  have B6 := B5.trans (hb.mono B5.size)
  have h_s_6 := h_s_5.below hb
  have h_x_6 := h_x_5.below hb
  have h_c_6 := h_c_5.later hb
  have h_p_6 := h_p_5.later hb
  have h_y_6 := h_y_5.later hb
  have h_am_6 := h_am_5.below hb
  have h_ad_6 := h_ad_5.below hb
  have h_ar_6 := h_ar_5.later hb
  have h_l_6 := h_l_5.below hb
  clear hb B5 h_s_5 h_x_5 h_c_5 h_p_5 h_y_5 h_am_5 h_ad_5 h_ar_5 h_l_5
  replace hap_b := Lib.hid hap_b
  have hb := below_al w6 (.cells #[.int .u8 1, .slice a_b n_b c_b, .int .i64 0, .slice b_b m_b d_b] 51)
  have B7 := B6.trans (hb.mono B6.size)
  have h_s_7 := h_s_6.below hb
  have h_x_7 := h_x_6.below hb
  have h_c_7 := h_c_6.later hb
  have h_p_7 := h_p_6.later hb
  have h_y_7 := h_y_6.later hb
  have h_am_7 := h_am_6.below hb
  have h_ad_7 := h_ad_6.below hb
  have h_ar_7 := h_ar_6.later hb
  have h_l_7 := h_l_6.below hb
  have h_bm_7 := h_bm_6.below hb
  have h_bd_7 := h_bd_6.below hb
  clear hb B6 h_s_6 h_x_6 h_c_6 h_p_6 h_y_6 h_am_6 h_ad_6 h_ar_6 h_l_6 h_bm_6 h_bd_6
  have h_br_7 := PRow.new 51 w6 #[.int .u8 1, .slice a_b n_b c_b, .int .i64 0, .slice b_b m_b d_b]
  go_upto_region 4 with (first | refine wpList_store_new rfl 51 _ _ rfl atRea _ _ _ rfl rfl rfl rfl (rea_one _ _ _ _ _ _ _ _) ?_)
  generalize (w6.alloc (.cells #[.int .u8 1, .slice a_b n_b c_b, .int .i64 0, .slice b_b m_b d_b] 51)) = w7 at *
  have k_ar_0 := h_ar_7.cell 0 _ rfl
  have k_ar_1 := h_ar_7.cell 1 _ rfl
  have k_ar_2 := h_ar_7.cell 2 _ rfl
  have k_ar_3 := h_ar_7.cell 3 _ rfl
  have hb := below_al w7 (.cells #[.int .i64 1, .int .i64 0] 3)
  have B8 := B7.trans (hb.mono B7.size)
  have h_s_8 := h_s_7.below hb
  have h_x_8 := h_x_7.below hb
  have h_c_8 := h_c_7.later hb
  have h_p_8 := h_p_7.later hb
  have h_y_8 := h_y_7.later hb
  have h_am_8 := h_am_7.below hb
  have h_ad_8 := h_ad_7.below hb
  have h_ar_8 := h_ar_7.later hb
  have h_l_8 := h_l_7.below hb
  have h_bm_8 := h_bm_7.below hb
  have h_bd_8 := h_bd_7.below hb
  have h_br_8 := h_br_7.later hb
  clear hb B7 h_s_7 h_x_7 h_c_7 h_p_7 h_y_7 h_am_7 h_ad_7 h_ar_7 h_l_7 h_bm_7 h_bd_7 h_br_7
  have h_i_8 := show RdI (w7.alloc (.cells #[.int .i64 1, .int .i64 0] 3)) (some ⟨w7.heap.size, 0, none⟩) 2 2 [1, 0] from rdI_lit w7 [1, 0] (by unfold maxLen; decide) (by unfold okI; decide)
  go_wp2_with fail
  clear k_ar_0 k_ar_1 k_ar_2 k_ar_3
  generalize (w7.alloc (.cells #[.int .i64 1, .int .i64 0] 3)) = w8 at *
  have c := Ints_any w8 (h_am_8.rd oneI) h_i_8
  rw [show decide (([1, 0] : List Int) = [1, 0]) = true from rfl] at c
  refine c.mono ?_
  rintro e w9 ⟨rfl, hb⟩
  clear c
  have B9 := B8.trans (hb.mono B8.size)
  have h_s_9 := h_s_8.below hb
  have h_x_9 := h_x_8.below hb
  have h_c_9 := h_c_8.later hb
  have h_p_9 := h_p_8.later hb
  have h_y_9 := h_y_8.later hb
  have h_am_9 := h_am_8.below hb
  have h_ad_9 := h_ad_8.below hb
  have h_ar_9 := h_ar_8.later hb
  have h_l_9 := h_l_8.below hb
  have h_bm_9 := h_bm_8.below hb
  have h_bd_9 := h_bd_8.below hb
  have h_br_9 := h_br_8.later hb
  have h_i_9 := h_i_8.below hb
  clear hb B8 h_s_8 h_x_8 h_c_8 h_p_8 h_y_8 h_am_8 h_ad_8 h_ar_8 h_l_8 h_bm_8 h_bd_8 h_br_8 h_i_8
  have k_ar_0 := h_ar_9.cell 0 _ rfl
  have k_ar_1 := h_ar_9.cell 1 _ rfl
  have k_ar_2 := h_ar_9.cell 2 _ rfl
  have k_ar_3 := h_ar_9.cell 3 _ rfl
  have hb := below_al w9 (.cells #[.int .i64 8] 3)
  have B10 := B9.trans (hb.mono B9.size)
  have h_s_10 := h_s_9.below hb
  have h_x_10 := h_x_9.below hb
  have h_c_10 := h_c_9.later hb
  have h_p_10 := h_p_9.later hb
  have h_y_10 := h_y_9.later hb
  have h_am_10 := h_am_9.below hb
  have h_ad_10 := h_ad_9.below hb
  have h_ar_10 := h_ar_9.later hb
  have h_l_10 := h_l_9.below hb
  have h_bm_10 := h_bm_9.below hb
  have h_bd_10 := h_bd_9.below hb
  have h_br_10 := h_br_9.later hb
  have h_i_10 := h_i_9.below hb
  clear hb B9 h_s_9 h_x_9 h_c_9 h_p_9 h_y_9 h_am_9 h_ad_9 h_ar_9 h_l_9 h_bm_9 h_bd_9 h_br_9 h_i_9
  have h_k_10 := show RdI (w9.alloc (.cells #[.int .i64 8] 3)) (some ⟨w9.heap.size, 0, none⟩) 1 1 [8] from rdI_lit w9 [8] (by unfold maxLen; decide) (by unfold okI; decide)
  go_wp2_with fail
  clear k_ar_0 k_ar_1 k_ar_2 k_ar_3
  generalize (w9.alloc (.cells #[.int .i64 8] 3)) = w10 at *
  have c := Ints_any w10 (h_ad_10.rd oneI) h_k_10
  rw [show decide (([8] : List Int) = [8]) = true from rfl] at c
  refine c.mono ?_
  rintro e w11 ⟨rfl, hb⟩
  clear c
  have B11 := B10.trans (hb.mono B10.size)
  have h_s_11 := h_s_10.below hb
  have h_x_11 := h_x_10.below hb
  have h_c_11 := h_c_10.later hb
  have h_p_11 := h_p_10.later hb
  have h_y_11 := h_y_10.later hb
  have h_am_11 := h_am_10.below hb
  have h_ad_11 := h_ad_10.below hb
  have h_ar_11 := h_ar_10.later hb
  have h_l_11 := h_l_10.below hb
  have h_bm_11 := h_bm_10.below hb
  have h_bd_11 := h_bd_10.below hb
  have h_br_11 := h_br_10.later hb
  have h_i_11 := h_i_10.below hb
  have h_k_11 := h_k_10.below hb
  clear hb B10 h_s_10 h_x_10 h_c_10 h_p_10 h_y_10 h_am_10 h_ad_10 h_ar_10 h_l_10 h_bm_10 h_bd_10 h_br_10 h_i_10 h_k_10
  have k_ar_0 := h_ar_11.cell 0 _ rfl
  have k_ar_1 := h_ar_11.cell 1 _ rfl
  have k_ar_2 := h_ar_11.cell 2 _ rfl
  have k_ar_3 := h_ar_11.cell 3 _ rfl
  have k_br_0 := h_br_11.cell 0 _ rfl
  have k_br_1 := h_br_11.cell 1 _ rfl
  have k_br_2 := h_br_11.cell 2 _ rfl
  have k_br_3 := h_br_11.cell 3 _ rfl
  have hb := below_al w11 (.cells #[.int .i64 1, .int .i64 0, .int .i64 2] 3)
  have B12 := B11.trans (hb.mono B11.size)
  have h_s_12 := h_s_11.below hb
  have h_x_12 := h_x_11.below hb
  have h_c_12 := h_c_11.later hb
  have h_p_12 := h_p_11.later hb
  have h_y_12 := h_y_11.later hb
  have h_am_12 := h_am_11.below hb
  have h_ad_12 := h_ad_11.below hb
  have h_ar_12 := h_ar_11.later hb
  have h_l_12 := h_l_11.below hb
  have h_bm_12 := h_bm_11.below hb
  have h_bd_12 := h_bd_11.below hb
  have h_br_12 := h_br_11.later hb
  have h_i_12 := h_i_11.below hb
  have h_k_12 := h_k_11.below hb
  clear hb B11 h_s_11 h_x_11 h_c_11 h_p_11 h_y_11 h_am_11 h_ad_11 h_ar_11 h_l_11 h_bm_11 h_bd_11 h_br_11 h_i_11 h_k_11
  have h_m_12 := show RdI (w11.alloc (.cells #[.int .i64 1, .int .i64 0, .int .i64 2] 3)) (some ⟨w11.heap.size, 0, none⟩) 3 3 [1, 0, 2] from rdI_lit w11 [1, 0, 2] (by unfold maxLen; decide) (by unfold okI; decide)
  go_wp2_with fail
  clear k_ar_0 k_ar_1 k_ar_2 k_ar_3 k_br_0 k_br_1 k_br_2 k_br_3
  generalize (w11.alloc (.cells #[.int .i64 1, .int .i64 0, .int .i64 2] 3)) = w12 at *
  have c := Ints_any w12 (h_bm_12.rd oneI) h_m_12
  rw [show decide (([1, 0, 2] : List Int) = [1, 0, 2]) = true from rfl] at c
  refine c.mono ?_
  rintro e w13 ⟨rfl, hb⟩
  clear c
  have B13 := B12.trans (hb.mono B12.size)
  have h_s_13 := h_s_12.below hb
  have h_x_13 := h_x_12.below hb
  have h_c_13 := h_c_12.later hb
  have h_p_13 := h_p_12.later hb
  have h_y_13 := h_y_12.later hb
  have h_am_13 := h_am_12.below hb
  have h_ad_13 := h_ad_12.below hb
  have h_ar_13 := h_ar_12.later hb
  have h_l_13 := h_l_12.below hb
  have h_bm_13 := h_bm_12.below hb
  have h_bd_13 := h_bd_12.below hb
  have h_br_13 := h_br_12.later hb
  have h_i_13 := h_i_12.below hb
  have h_k_13 := h_k_12.below hb
  have h_m_13 := h_m_12.below hb
  clear hb B12 h_s_12 h_x_12 h_c_12 h_p_12 h_y_12 h_am_12 h_ad_12 h_ar_12 h_l_12 h_bm_12 h_bd_12 h_br_12 h_i_12 h_k_12 h_m_12
  have hm0 : m_b = 0 := h_bd_13.len.symm
  subst hm0
  have k_br_0 := h_br_13.cell 0 _ rfl
  have k_br_1 := h_br_13.cell 1 _ rfl
  have k_br_2 := h_br_13.cell 2 _ rfl
  have k_br_3 := h_br_13.cell 3 _ rfl
  go_wp2_with fail
  clear k_br_0 k_br_1 k_br_2 k_br_3
  go_ret
  exact ⟨rfl, B13⟩

end Go.Proofs.Ytlfempfhohejiaa
