/- Profiles: all, Check. Conditions: valid profiles of at most 1,000 ballots. Printed by gen_toph.py. -/
import Derived.Test.YthpjnbnheagpiaaTopG
namespace Go.Proofs.Ythpjnbnheagpiaa
open Go.RowKit Go.Suf
set_option linter.unusedVariables false
set_option linter.unusedSimpArgs false

/-- The rows of a valid profile. -/
structure VR (kd : Nat) (cn : Int) (rs : List RwQ) : Prop where
  rise : RiseR rs
  many : ∀ r ∈ rs, 1 ≤ r.many
  fine : ∀ r ∈ rs, ballC kd r.ms cn = 0
  sum : sumR rs ≤ 1000
theorem sumR_append (a b : List RwQ) : sumR (a ++ b) = sumR a + sumR b := by simp [sumR]
theorem sumR_pos {rs : List RwQ} (h : ∀ r ∈ rs, 1 ≤ r.many) : (rs.length : Int) ≤ sumR rs := by
  induction rs with
  | nil => exact Int.le_refl _
  | cons r rs ih =>
    have h1 := h r (by simp)
    have h2 := ih fun x hx => h x (List.mem_cons_of_mem _ hx)
    simp only [sumR, List.map_cons, List.sum_cons, List.length_cons] at h2 ⊢
    omega
theorem sumR_take {rs : List RwQ} {i : Nat} {r : RwQ} (hr : rs[i]? = some r) : sumR (rs.take (i + 1)) = sumR (rs.take i) + r.many := by
  obtain ⟨hi, e⟩ := List.getElem?_eq_some_iff.1 hr
  rw [List.take_succ_eq_append_getElem hi, sumR_append, e]
  simp [sumR]
theorem VR.part {kd : Nat} {cn : Int} {rs : List RwQ} (h : VR kd cn rs) {i : Nat} {r : RwQ} (hr : rs[i]? = some r) : 0 ≤ sumR (rs.take i) ∧ sumR (rs.take i) + r.many ≤ 1000 ∧ 1 ≤ r.many ∧ ballC kd r.ms cn = 0 := by
  have hm : r ∈ rs := List.mem_of_getElem? hr
  have h1 := sumR_pos (rs := rs.take i) fun x hx => h.many x (List.mem_of_mem_take hx)
  have h2 := sumR_pos (rs := rs.drop (i + 1)) fun x hx => h.many x (List.mem_of_mem_drop hx)
  have h3 := sumR_take hr
  have h4 := sumR_append (rs.take (i + 1)) (rs.drop (i + 1))
  rw [List.take_append_drop] at h4
  have h5 := h.sum
  have h6 : (0 : Int) ≤ ((rs.take i).length : Nat) := Int.natCast_nonneg _
  have h7 : (0 : Int) ≤ ((rs.drop (i + 1)).length : Nat) := Int.natCast_nonneg _
  exact ⟨by omega, by omega, h.many r hm, h.fine r hm⟩

set_option maxRecDepth 100000 in
set_option maxHeartbeats 4000000 in
theorem allRows_any (w : World) {w0 : World} {gf gs gp : Nat} (cn : Int) (hc1 : 1 ≤ cn) (hc2 : cn ≤ 10) (kd : Nat) (hkd : kd < 256) {a_r : Option Addr} {n_r c_r : Nat} {a_q : Option Addr} {c_q : Nat} {rs : List RwQ} (F : PRow 4 w0 w gf #[.bool true]) (S : PRow 3 w0 w gs #[.int .i64 0]) (P : PRow 51 w0 w gp #[.int .i64 cn, .int .u8 ((kd : Nat) : Int), .slice a_r n_r c_r]) (h_r : RdR w0 a_q n_r c_q rs) (hV : VR kd cn rs) : Calls Try.prog 84 #[.slice a_q n_r c_q, .func (.func 85) #[] #[.pointer (some ⟨gf, 0, none⟩), .pointer (some ⟨gs, 0, none⟩), .pointer (some ⟨gp, 0, none⟩)]] w (fun e w' => e = .returned (.bool true) ∧ (∃ fi : Bool, PRow 4 w0 w' gf #[.bool fi]) ∧ PRow 3 w0 w' gs #[.int .i64 (sumR rs)] ∧ PRow 51 w0 w' gp #[.int .i64 cn, .int .u8 ((kd : Nat) : Int), .slice a_r n_r c_r]) := by
  have hn := h_r.lt
  have HL := Lib.hid h_r.len
  have HRR := Lib.hid h_r
  have HV := Lib.hid hV
  clear h_r hV
  go_enter Try.func84, Try.ntmps84
  go_wp2_with fail
  go_loopw [9] (fun j wr => ∃ i : Nat, i ≤ n_r ∧ j = .int .i64 (i : Nat) ∧ PRow 4 w0 wr gf #[.bool (decide (i = 0))] ∧ PRow 3 w0 wr gs #[.int .i64 (sumR (rs.take i))] ∧ PRow 51 w0 wr gp #[.int .i64 cn, .int .u8 ((kd : Nat) : Int), .slice a_r n_r c_r]) (fun j _ => n_r - (intOf j).toNat)
  case atStart => exact ⟨0, Nat.zero_le _, rfl, F, S, P⟩
  clear F S P
  case round =>
    rename World => wr
    obtain ⟨i, hi, rfl, F, S, P⟩ := hrel
    by_cases hlt : i < n_r
    case neg =>
      obtain rfl : n_r = i := by omega
      rw [List.take_of_length_le (by rw [HL.out]; exact Nat.le_refl _)] at S
      go_wp2_with fail
      go_ret
      exact ⟨rfl, ⟨_, F⟩, S, P⟩
    obtain ⟨y, hy⟩ : ∃ y, rs[i]? = some y := ⟨_, List.getElem?_eq_getElem (by rw [HL.out]; exact hlt)⟩
    obtain ⟨x, hx⟩ : ∃ x, rs[i - 1]? = some x := ⟨_, List.getElem?_eq_getElem (by rw [HL.out]; omega)⟩
    obtain ⟨s1, s2, s3, s4⟩ := HV.out.part hy
    have HS2 := Lib.hid s2
    have HBC := Lib.hid s4
    have HLX := Lib.hid (show decide (i = 0) = false → lexZ x.ms y.ms < 0 from fun h => by
      have h0 : i ≠ 0 := by simpa using h
      have h1 := HV.out.rise (i - 1) i (by omega) (by rw [HL.out]; exact hlt)
      have hx' := rth_some (l := rs) (i := i - 1) (by rw [HL.out]; omega)
      have hy' := rth_some (l := rs) (i := i) (by rw [HL.out]; exact hlt)
      rw [hx] at hx'
      rw [hy] at hy'
      rw [← Option.some.inj hx', ← Option.some.inj hy'] at h1
      exact of_decide_eq_true h1)
    have HST := Lib.hid (sumR_take hy)
    obtain ⟨bb, oo, rfl, hcc⟩ := HRR.out.addr (by omega)
    obtain ⟨u1, v1, z0, z1, rfl, -, a_x, n_x, c_x, rfl, h_x⟩ := hcc (i - 1) x hx
    obtain ⟨u2, v2, t0, t1, rfl, -, a_y, n_y, c_y, rfl, h_y⟩ := hcc i y hy
    obtain ⟨s, hs⟩ : ∃ s, sumR (rs.take i) = s := ⟨_, rfl⟩
    rw [hs] at S s1
    have HSS := Lib.hid hs
    obtain ⟨fi, hfi⟩ : ∃ fi, decide (i = 0) = fi := ⟨_, rfl⟩
    rw [hfi] at F HLX
    have HX := Lib.hid h_x
    have HY := Lib.hid h_y
    clear s2 s4 hcc hx hy hs hfi h_x h_y
    have T0 := cell_below F.below t0
    have T1 := cell_below F.below t1
    have HZ0 := Lib.hid z0
    have HZ1 := Lib.hid z1
    clear t0 t1 z0 z1
    have Q := (PRow.new 92 wr #[.slice a_y n_y c_y, .int .i64 y.many]).base F.below
    have hal := below_al wr (.cells #[.slice a_y n_y c_y, .int .i64 y.many] 92)
    have F := F.later hal
    have S := S.later hal
    have P := P.later hal
    go_upto_region 4 with (first | refine wpList_store_new rfl 92 _ _ rfl atRow _ _ _ rfl rfl rfl rfl (row_one _ _ _ _) ?_)
    clear T0 T1 hal
    obtain ⟨gq, hgq⟩ : ∃ gq, wr.heap.size = gq := ⟨_, rfl⟩
    rw [hgq] at Q ⊢
    clear hgq
    generalize wr.alloc (.cells #[.slice a_y n_y c_y, .int .i64 y.many] 92) = wa at *
    have hb := (Below.refl wa.heap.size wa).drew
    have F2 := F.later hb
    have S2 := S.later hb
    have P2 := P.later hb
    have Q2 := Q.later hb
    clear F S P Q hb
    have kx0 := cell_below F2.below HZ0.out
    have kx1 := cell_below F2.below HZ1.out
    cases i with
    | zero =>
      have kq0 := Q2.cell 0 _ rfl
      have kq1 := Q2.cell 1 _ rfl
      rw [Nat.zero_sub, Nat.zero_mul, Nat.add_zero] at kx0 kx1
      rw [Nat.zero_sub, Nat.zero_mul, Nat.add_zero] at HZ0 HZ1
      have hw0 : IntKind.i64.wrap (-1) = -1 := wrap_in (by omega) (by omega)
      refine wp_region_held_drew (S := (fun v => v.cell? ⟨bb, oo, none⟩ = some (.slice a_x n_x c_x) ∧ v.cell? ⟨bb, oo + 1, none⟩ = some (.int .i64 x.many))) (by kernel_rfl) ?_ (fun hHeld => ?_)
      · exact ⟨kx0, kx1⟩
      generalize wa.drew = w4 at *
      refine wpAnyH_take (i := 0) (oi := ?oir1_0) (v := ?vr1_0) ?hir1_0 (by kernel_rfl) (by kernel_rfl) (by kernel_rfl) ?hqr1_0 ?hyr1_0 (by assumption) ?restr1_0
      case hir1_0 => simp only [List.getElem?_toArray, List.getElem?_cons_succ, List.getElem?_cons_zero]; rfl
      case hqr1_0 => exact fun _ _ _ h => h
      case hyr1_0 => (refine Or.inl ⟨by rfl, ?_⟩; intro w hSw; (try dsimp only at hSw); go_simp; all_goals with_reducible rfl)
      try simp only [Act.put, List.setIfInBounds_toArray, List.set_cons_zero, List.set_cons_succ]
      refine wpAnyH_take (i := 1) (oi := ?oir1_1) (v := ?vr1_1) ?hir1_1 (by kernel_rfl) (by kernel_rfl) (by kernel_rfl) ?hqr1_1 ?hyr1_1 (by assumption) ?restr1_1
      case hir1_1 => simp only [List.getElem?_toArray, List.getElem?_cons_succ, List.getElem?_cons_zero]; rfl
      case hqr1_1 => exact fun _ _ _ h => h
      case hyr1_1 => (refine Or.inl ⟨by rfl, ?_⟩; intro w hSw; (try dsimp only at hSw); go_simp; all_goals with_reducible rfl)
      try simp only [Act.put, List.setIfInBounds_toArray, List.set_cons_zero, List.set_cons_succ]
      refine wpAnyH_take (i := 2) (oi := ?oir1_2) (v := ?vr1_2) ?hir1_2 (by kernel_rfl) (by kernel_rfl) (by kernel_rfl) ?hqr1_2 ?hyr1_2 (by assumption) ?restr1_2
      case hir1_2 => simp only [List.getElem?_toArray, List.getElem?_cons_succ, List.getElem?_cons_zero]; rfl
      case hqr1_2 => exact fun _ _ _ h => h
      case hyr1_2 => (refine Or.inl ⟨by rfl, ?_⟩; intro w hSw; (try dsimp only at hSw); go_simp; all_goals with_reducible rfl)
      try simp only [Act.put, List.setIfInBounds_toArray, List.set_cons_zero, List.set_cons_succ]
      refine wpAnyH_take (i := 3) (oi := ?oir1_3) (v := ?vr1_3) ?hir1_3 (by kernel_rfl) (by kernel_rfl) (by kernel_rfl) ?hqr1_3 ?hyr1_3 (by assumption) ?restr1_3
      case hir1_3 => simp only [List.getElem?_toArray, List.getElem?_cons_succ, List.getElem?_cons_zero]; rfl
      case hqr1_3 => exact fun _ _ _ h => h
      case hyr1_3 => (refine Or.inl ⟨by rfl, ?_⟩; intro w hSw; (try dsimp only at hSw); go_simp; all_goals with_reducible rfl)
      try simp only [Act.put, List.setIfInBounds_toArray, List.set_cons_zero, List.set_cons_succ]
      refine wpAnyH_take (i := 4) (oi := ?oir1_4) (v := ?vr1_4) ?hir1_4 (by kernel_rfl) (by kernel_rfl) (by kernel_rfl) ?hqr1_4 ?hyr1_4 (by assumption) ?restr1_4
      case hir1_4 => simp only [List.getElem?_toArray, List.getElem?_cons_succ, List.getElem?_cons_zero]; rfl
      case hqr1_4 => exact fun _ _ _ h => h
      case hyr1_4 => (refine Or.inl ⟨by rfl, ?_⟩; intro w hSw; (try dsimp only at hSw); go_simp; all_goals with_reducible rfl)
      try simp only [Act.put, List.setIfInBounds_toArray, List.set_cons_zero, List.set_cons_succ]
      refine wpAnyH_take (i := 5) (oi := ?oir1_5) (v := ?vr1_5) ?hir1_5 (by kernel_rfl) (by kernel_rfl) (by kernel_rfl) ?hqr1_5 ?hyr1_5 (by assumption) ?restr1_5
      case hir1_5 => simp only [List.getElem?_toArray, List.getElem?_cons_succ, List.getElem?_cons_zero]; rfl
      case hqr1_5 => exact fun _ _ _ h => h
      case hyr1_5 => (refine Or.inl ⟨by rfl, ?_⟩; intro w hSw; (try dsimp only at hSw); go_simp; all_goals with_reducible rfl)
      try simp only [Act.put, List.setIfInBounds_toArray, List.set_cons_zero, List.set_cons_succ]
      refine wpAnyH_take (i := 6) (oi := ?oir1_6) (v := ?vr1_6) ?hir1_6 (by kernel_rfl) (by kernel_rfl) (by kernel_rfl) ?hqr1_6 ?hyr1_6 (by assumption) ?restr1_6
      case hir1_6 => simp only [List.getElem?_toArray, List.getElem?_cons_succ, List.getElem?_cons_zero]; rfl
      case hqr1_6 => exact fun _ _ _ h => h
      case hyr1_6 => (refine Or.inl ⟨by rfl, ?_⟩; intro w hSw; (try dsimp only at hSw); go_simp; all_goals with_reducible rfl)
      try simp only [Act.put, List.setIfInBounds_toArray, List.set_cons_zero, List.set_cons_succ]
      refine wpAnyH_ready (rs := [7]) (by kernel_rfl) (by simp) ?_
      refine AllReadyH.cons (o := ?oz2) ?hoz2 (fun K hK => ?kz2) AllReadyH.nil
      case hoz2 => simp only [List.getElem?_toArray, List.getElem?_cons_succ, List.getElem?_cons_zero]; rfl
      go_simp
      refine hK.out _ _ ?_ (fun hHeld => ?_)
      · exact ⟨kx0, kx1⟩
      clear hK K
      try simp only [Act.put, List.setIfInBounds_toArray, List.set_cons_zero, List.set_cons_succ]
      refine wpAnyH_ready (rs := [8]) (by kernel_rfl) (by simp) ?_
      refine AllReadyH.cons (o := ?oy2) ?hoy2 (fun K hK => ?ky2) AllReadyH.nil
      case hoy2 => simp only [List.getElem?_toArray, List.getElem?_cons_succ, List.getElem?_cons_zero]; rfl
      go_simp
      refine (checkRow_any w4 ⟨s1, by have := HS2.out; rw [HSS.out] at this; omega⟩ cn hc1 hc2 kd hkd F2 S2 P2 HX.out x.many HY.out y.many ⟨s3, by have := HS2.out; rw [HSS.out] at this; omega⟩ HLX.out HBC).mono ?_
      rintro e w5 ⟨rfl, F3, S3, P3⟩
      clear kq0 kq1 Q2 kx0 kx1
      have kx0 := cell_below F3.below HZ0.out
      have kx1 := cell_below F3.below HZ1.out
      go_wp2_with fail
      refine hK.out _ _ ?_ (fun hHeld => ?_)
      · exact ⟨kx0, kx1⟩
      clear hK K F2 S2 P2
      try simp only [Act.put, List.setIfInBounds_toArray, List.set_cons_zero, List.set_cons_succ]
      refine wpAnyH_take (i := 9) (oi := ?oir3_9) (v := ?vr3_9) ?hir3_9 (by kernel_rfl) (by kernel_rfl) (by kernel_rfl) ?hqr3_9 ?hyr3_9 (by assumption) ?restr3_9
      case hir3_9 => simp only [List.getElem?_toArray, List.getElem?_cons_succ, List.getElem?_cons_zero]; rfl
      case hqr3_9 => exact fun _ _ _ h => h
      case hyr3_9 => (refine Or.inl ⟨by rfl, ?_⟩; intro w hSw; (try dsimp only at hSw); go_simp; all_goals with_reducible rfl)
      try simp only [Act.put, List.setIfInBounds_toArray, List.set_cons_zero, List.set_cons_succ]
      refine wpAnyH_done (by kernel_rfl) ?_ _
      clear hHeld kx0 kx1
      rw [← HSS.out, ← HST.out] at S3
      go_wp2_with fail
      go_roundw
      case rel => exact ⟨0 + 1, by omega, by go_num, F3, S3, P3⟩
      case measure => simp [intOf]; omega
    | succ i =>
      have kq0 := Q2.cell 0 _ rfl
      have kq1 := Q2.cell 1 _ rfl
      rw [Nat.add_sub_cancel] at kx0 kx1
      rw [Nat.add_sub_cancel] at HZ0 HZ1
      have hlt2 : i < n_r := by omega
      have hw1 : IntKind.i64.wrap (((i + 1 : Nat) : Int) - 1) = ((i : Nat) : Int) := (congrArg IntKind.i64.wrap (by omega)).trans (wrap_in (z := ((i : Nat) : Int)) (by omega) (by omega))
      have hw2 : IntKind.i64.wrap ((i : Nat) : Int) = ((i : Nat) : Int) := wrap_in (by omega) (by omega)
      have d1 : ¬ ((0 : Int) > ((i : Nat) : Int)) := by omega
      have d2 : ¬ (((i : Nat) : Int) < 0) := by omega
      refine wp_region_held_drew (S := (fun v => v.cell? ⟨bb, oo + i * 2, none⟩ = some (.slice a_x n_x c_x) ∧ v.cell? ⟨bb, oo + i * 2 + 1, none⟩ = some (.int .i64 x.many))) (by kernel_rfl) ?_ (fun hHeld => ?_)
      · exact ⟨kx0, kx1⟩
      generalize wa.drew = w4 at *
      refine wpAnyH_take (i := 0) (oi := ?oir4_0) (v := ?vr4_0) ?hir4_0 (by kernel_rfl) (by kernel_rfl) (by kernel_rfl) ?hqr4_0 ?hyr4_0 (by assumption) ?restr4_0
      case hir4_0 => simp only [List.getElem?_toArray, List.getElem?_cons_succ, List.getElem?_cons_zero]; rfl
      case hqr4_0 => exact fun _ _ _ h => h
      case hyr4_0 => (refine Or.inl ⟨by rfl, ?_⟩; intro w hSw; (try dsimp only at hSw); go_simp; all_goals with_reducible rfl)
      try simp only [Act.put, List.setIfInBounds_toArray, List.set_cons_zero, List.set_cons_succ]
      refine wpAnyH_take (i := 1) (oi := ?oir4_1) (v := ?vr4_1) ?hir4_1 (by kernel_rfl) (by kernel_rfl) (by kernel_rfl) ?hqr4_1 ?hyr4_1 (by assumption) ?restr4_1
      case hir4_1 => simp only [List.getElem?_toArray, List.getElem?_cons_succ, List.getElem?_cons_zero]; rfl
      case hqr4_1 => exact fun _ _ _ h => h
      case hyr4_1 => (refine Or.inl ⟨by rfl, ?_⟩; intro w hSw; (try dsimp only at hSw); go_simp; all_goals with_reducible rfl)
      try simp only [Act.put, List.setIfInBounds_toArray, List.set_cons_zero, List.set_cons_succ]
      refine wpAnyH_take (i := 2) (oi := ?oir4_2) (v := ?vr4_2) ?hir4_2 (by kernel_rfl) (by kernel_rfl) (by kernel_rfl) ?hqr4_2 ?hyr4_2 (by assumption) ?restr4_2
      case hir4_2 => simp only [List.getElem?_toArray, List.getElem?_cons_succ, List.getElem?_cons_zero]; rfl
      case hqr4_2 => exact fun _ _ _ h => h
      case hyr4_2 => (refine Or.inl ⟨by rfl, ?_⟩; intro w hSw; (try dsimp only at hSw); go_simp; all_goals with_reducible rfl)
      try simp only [Act.put, List.setIfInBounds_toArray, List.set_cons_zero, List.set_cons_succ]
      refine wpAnyH_take (i := 3) (oi := ?oir4_3) (v := ?vr4_3) ?hir4_3 (by kernel_rfl) (by kernel_rfl) (by kernel_rfl) ?hqr4_3 ?hyr4_3 (by assumption) ?restr4_3
      case hir4_3 => simp only [List.getElem?_toArray, List.getElem?_cons_succ, List.getElem?_cons_zero]; rfl
      case hqr4_3 => exact fun _ _ _ h => h
      case hyr4_3 => (refine Or.inl ⟨by rfl, ?_⟩; intro w hSw; (try dsimp only at hSw); go_simp; all_goals with_reducible rfl)
      try simp only [Act.put, List.setIfInBounds_toArray, List.set_cons_zero, List.set_cons_succ]
      refine wpAnyH_take (i := 4) (oi := ?oir4_4) (v := ?vr4_4) ?hir4_4 (by kernel_rfl) (by kernel_rfl) (by kernel_rfl) ?hqr4_4 ?hyr4_4 (by assumption) ?restr4_4
      case hir4_4 => simp only [List.getElem?_toArray, List.getElem?_cons_succ, List.getElem?_cons_zero]; rfl
      case hqr4_4 => exact fun _ _ _ h => h
      case hyr4_4 => (refine Or.inl ⟨by rfl, ?_⟩; intro w hSw; (try dsimp only at hSw); go_simp; all_goals with_reducible rfl)
      try simp only [Act.put, List.setIfInBounds_toArray, List.set_cons_zero, List.set_cons_succ]
      refine wpAnyH_take (i := 5) (oi := ?oir4_5) (v := ?vr4_5) ?hir4_5 (by kernel_rfl) (by kernel_rfl) (by kernel_rfl) ?hqr4_5 ?hyr4_5 (by assumption) ?restr4_5
      case hir4_5 => simp only [List.getElem?_toArray, List.getElem?_cons_succ, List.getElem?_cons_zero]; rfl
      case hqr4_5 => exact fun _ _ _ h => h
      case hyr4_5 => (refine Or.inl ⟨by rfl, ?_⟩; intro w hSw; (try dsimp only at hSw); go_simp; all_goals with_reducible rfl)
      try simp only [Act.put, List.setIfInBounds_toArray, List.set_cons_zero, List.set_cons_succ]
      refine wpAnyH_take (i := 6) (oi := ?oir4_6) (v := ?vr4_6) ?hir4_6 (by kernel_rfl) (by kernel_rfl) (by kernel_rfl) ?hqr4_6 ?hyr4_6 (by assumption) ?restr4_6
      case hir4_6 => simp only [List.getElem?_toArray, List.getElem?_cons_succ, List.getElem?_cons_zero]; rfl
      case hqr4_6 => exact fun _ _ _ h => h
      case hyr4_6 => (refine Or.inl ⟨by rfl, ?_⟩; intro w hSw; (try dsimp only at hSw); go_simp; all_goals with_reducible rfl)
      try simp only [Act.put, List.setIfInBounds_toArray, List.set_cons_zero, List.set_cons_succ]
      refine wpAnyH_ready (rs := [7]) (by kernel_rfl) (by simp) ?_
      refine AllReadyH.cons (o := ?oz5) ?hoz5 (fun K hK => ?kz5) AllReadyH.nil
      case hoz5 => simp only [List.getElem?_toArray, List.getElem?_cons_succ, List.getElem?_cons_zero]; rfl
      go_simp
      refine hK.out _ _ ?_ (fun hHeld => ?_)
      · exact ⟨kx0, kx1⟩
      clear hK K
      try simp only [Act.put, List.setIfInBounds_toArray, List.set_cons_zero, List.set_cons_succ]
      refine wpAnyH_ready (rs := [8]) (by kernel_rfl) (by simp) ?_
      refine AllReadyH.cons (o := ?oy5) ?hoy5 (fun K hK => ?ky5) AllReadyH.nil
      case hoy5 => simp only [List.getElem?_toArray, List.getElem?_cons_succ, List.getElem?_cons_zero]; rfl
      go_simp
      refine (checkRow_any w4 ⟨s1, by have := HS2.out; rw [HSS.out] at this; omega⟩ cn hc1 hc2 kd hkd F2 S2 P2 HX.out x.many HY.out y.many ⟨s3, by have := HS2.out; rw [HSS.out] at this; omega⟩ HLX.out HBC).mono ?_
      rintro e w5 ⟨rfl, F3, S3, P3⟩
      clear kq0 kq1 Q2 kx0 kx1
      have kx0 := cell_below F3.below HZ0.out
      have kx1 := cell_below F3.below HZ1.out
      go_wp2_with fail
      refine hK.out _ _ ?_ (fun hHeld => ?_)
      · exact ⟨kx0, kx1⟩
      clear hK K F2 S2 P2
      try simp only [Act.put, List.setIfInBounds_toArray, List.set_cons_zero, List.set_cons_succ]
      refine wpAnyH_take (i := 9) (oi := ?oir6_9) (v := ?vr6_9) ?hir6_9 (by kernel_rfl) (by kernel_rfl) (by kernel_rfl) ?hqr6_9 ?hyr6_9 (by assumption) ?restr6_9
      case hir6_9 => simp only [List.getElem?_toArray, List.getElem?_cons_succ, List.getElem?_cons_zero]; rfl
      case hqr6_9 => exact fun _ _ _ h => h
      case hyr6_9 => (refine Or.inl ⟨by rfl, ?_⟩; intro w hSw; (try dsimp only at hSw); go_simp; all_goals with_reducible rfl)
      try simp only [Act.put, List.setIfInBounds_toArray, List.set_cons_zero, List.set_cons_succ]
      refine wpAnyH_done (by kernel_rfl) ?_ _
      clear hHeld kx0 kx1
      rw [← HSS.out, ← HST.out] at S3
      go_wp2_with fail
      go_roundw
      case rel => exact ⟨i + 1 + 1, by omega, by go_num, F3, S3, P3⟩
      case measure => simp [intOf]; omega

end Go.Proofs.Ythpjnbnheagpiaa
