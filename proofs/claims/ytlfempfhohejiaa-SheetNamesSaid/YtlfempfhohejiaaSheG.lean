/- The answer's Ints, Same and Great of ballots, Same of readings, Fits, Fill. No condition. Printed by gen_sheg.py. -/
import Derived.Test.YtlfempfhohejiaaSheE
import Derived.Test.YtlfempfhohejiaaSheF
namespace Go.Proofs.Ytlfempfhohejiaa
open Go.RowKit Go.Suf
set_option linter.unusedVariables false
set_option linter.unusedSimpArgs false

/-- A reading. -/
structure RQ where
  kd : Nat
  ms : List Int
  ov : Int
  ds : List Int
  deriving DecidableEq

theorem Ints_diff {xs ys : List Int} {k : Nat} (h : ¬ ith xs k = ith ys k) : ¬ xs = ys := fun e => h (by rw [e])
set_option maxRecDepth 100000 in
set_option maxHeartbeats 2000000 in
theorem Ints_any (w : World) {a_x : Option Addr} {n_x c_x : Nat} {xs : List Int} (h_x : RdI w a_x n_x c_x xs) {a_y : Option Addr} {n_y c_y : Nat} {ys : List Int} (h_y : RdI w a_y n_y c_y ys) : Calls Try.prog 29 #[.slice a_x n_x c_x, .slice a_y n_y c_y] w (fun e w' => e = .returned (.bool (decide (xs = ys))) ∧ Below w.heap.size w w') := by
  have hnx := h_x.lt
  have hny := h_y.lt
  have HX := Lib.hid h_x.len
  have HY := Lib.hid h_y.len
  obtain ⟨r, hr⟩ : ∃ r, decide (xs = ys) = r := ⟨_, rfl⟩
  rw [hr]
  have HR := Lib.hid hr
  clear hr
  go_enter Try.func29, Try.ntmps29
  by_cases hne : n_x = n_y
  case neg =>
    have HF := Lib.hid (show r = false by rw [← HR.out]; exact decide_eq_false fun e => hne (by rw [← HX.out, ← HY.out, e]))
    have h1 : (((n_x : Nat) : Int) != ((n_y : Nat) : Int)) = true := by simp; omega
    go_wp2_with fail
    go_ret
    exact ⟨by rw [HF.out]; rfl, Below.refl _ _⟩
  subst hne
  have h1 : (((n_x : Nat) : Int) != ((n_x : Nat) : Int)) = false := by simp
  go_wp2_with fail
  go_loopw [5] (fun j wr => ∃ i : Nat, i ≤ n_x ∧ j = .int .i64 (i : Nat) ∧ Below w.heap.size w wr ∧ Hid (∀ k, k < i → ith xs k = ith ys k)) (fun j _ => n_x - (intOf j).toNat)
  case atStart => exact ⟨0, Nat.zero_le _, rfl, Below.refl _ _, Lib.hid fun k hk => absurd hk (by omega)⟩
  case round =>
    rename World => wr
    obtain ⟨i, hi, rfl, hb, hS⟩ := hrel
    by_cases hlt : i < n_x
    case neg =>
      obtain rfl : n_x = i := by omega
      have HF := Lib.hid (show r = true by rw [← HR.out]; exact decide_eq_true (g_ext 0 (by rw [HX.out, HY.out]) (by rw [HX.out]; exact hS.out)))
      go_wp2_with fail
      go_ret
      exact ⟨by rw [HF.out]; rfl, hb⟩
    case pos =>
      have B100 := hb
      have h_x_100 := h_x.below hb
      have h_y_100 := h_y.below hb
      clear hb
      obtain ⟨b, off, rfl, hcc⟩ := h_x_100.addrI (by omega)
      have kx := hcc i hlt
      clear hcc
      obtain ⟨b', off', rfl, hcc⟩ := h_y_100.addrI (by omega)
      have ky := hcc i hlt
      clear hcc
      obtain ⟨x, hx⟩ : ∃ x, ith xs i = x := ⟨_, rfl⟩
      obtain ⟨y, hy⟩ : ∃ y, ith ys i = y := ⟨_, rfl⟩
      rw [hx] at kx
      rw [hy] at ky
      have HXI := Lib.hid hx
      have HYI := Lib.hid hy
      clear hx hy
      by_cases e : x = y
      case pos =>
        subst e
        have e1 : (x != x) = false := by simp
        go_upto_region 6 with fail
        have hb := (Below.refl wr.heap.size wr).drew
        replace kx := cell_below hb kx
        replace ky := cell_below hb ky
        have B101 := B100.trans (hb.mono B100.size)
        clear hb B100
        refine wp_region_held_drew (S := (fun w' => w'.cell? ⟨b, off + i, none⟩ = some (.int .i64 x) ∧ w'.cell? ⟨b', off' + i, none⟩ = some (.int .i64 x) ∧ True)) (by kernel_rfl) ?_ (fun hHeld => ?_)
        · exact ⟨kx, ky, trivial⟩
        generalize wr.drew = w101 at *
        refine wpAnyH_take (i := 0) (oi := ?oir1_0) (v := ?vr1_0) ?hir1_0 (by kernel_rfl) (by kernel_rfl) (by kernel_rfl) ?hqr1_0 ?hyr1_0 (by assumption) ?restr1_0
        case hir1_0 => simp only [List.getElem?_toArray, List.getElem?_cons_succ, List.getElem?_cons_zero]; rfl
        case hqr1_0 => exact fun _ _ _ h => h
        case hyr1_0 => (refine Or.inl ⟨by rfl, ?_⟩; intro w hSw; (try dsimp only at hSw); go_simp; all_goals with_reducible rfl)
        try simp only [Act.put, List.setIfInBounds_toArray, List.set_cons_zero, List.set_cons_succ]
        refine wpAnyH_take (i := 1) (oi := ?oir1_1) (v := ?vr1_1) ?hir1_1 (by kernel_rfl) (by kernel_rfl) (by kernel_rfl) ?hqr1_1 ?hyr1_1 (by assumption) ?restr1_1
        case hir1_1 => simp only [List.getElem?_toArray, List.getElem?_cons_succ, List.getElem?_cons_zero]; rfl
        case hqr1_1 => exact fun _ _ _ h => h
        case hyr1_1 => (refine Or.inl ⟨by rfl, ?_⟩; intro w hSw; (try dsimp only at hSw); go_simp; all_goals with_reducible rfl)
        try simp only [Act.put, List.setIfInBounds_toArray, List.set_cons_zero, List.set_cons_succ]
        refine wpAnyH_take (i := 2) (oi := ?oir1_2) (v := ?vr1_2) ?hir1_2 (by kernel_rfl) (by kernel_rfl) (by kernel_rfl) ?hqr1_2 ?hyr1_2 (by assumption) ?restr1_2
        case hir1_2 => simp only [List.getElem?_toArray, List.getElem?_cons_succ, List.getElem?_cons_zero]; rfl
        case hqr1_2 => exact fun _ _ _ h => h
        case hyr1_2 => (refine Or.inl ⟨by rfl, ?_⟩; intro w hSw; (try dsimp only at hSw); go_simp; all_goals with_reducible rfl)
        try simp only [Act.put, List.setIfInBounds_toArray, List.set_cons_zero, List.set_cons_succ]
        refine wpAnyH_take (i := 3) (oi := ?oir1_3) (v := ?vr1_3) ?hir1_3 (by kernel_rfl) (by kernel_rfl) (by kernel_rfl) ?hqr1_3 ?hyr1_3 (by assumption) ?restr1_3
        case hir1_3 => simp only [List.getElem?_toArray, List.getElem?_cons_succ, List.getElem?_cons_zero]; rfl
        case hqr1_3 => exact fun _ _ _ h => h
        case hyr1_3 => (refine Or.inl ⟨by rfl, ?_⟩; intro w hSw; (try dsimp only at hSw); go_simp; all_goals with_reducible rfl)
        try simp only [Act.put, List.setIfInBounds_toArray, List.set_cons_zero, List.set_cons_succ]
        refine wpAnyH_take (i := 4) (oi := ?oir1_4) (v := ?vr1_4) ?hir1_4 (by kernel_rfl) (by kernel_rfl) (by kernel_rfl) ?hqr1_4 ?hyr1_4 (by assumption) ?restr1_4
        case hir1_4 => simp only [List.getElem?_toArray, List.getElem?_cons_succ, List.getElem?_cons_zero]; rfl
        case hqr1_4 => exact fun _ _ _ h => h
        case hyr1_4 => (refine Or.inl ⟨by rfl, ?_⟩; intro w hSw; (try dsimp only at hSw); go_simp; all_goals with_reducible rfl)
        try simp only [Act.put, List.setIfInBounds_toArray, List.set_cons_zero, List.set_cons_succ]
        refine wpAnyH_take (i := 5) (oi := ?oir1_5) (v := ?vr1_5) ?hir1_5 (by kernel_rfl) (by kernel_rfl) (by kernel_rfl) ?hqr1_5 ?hyr1_5 (by assumption) ?restr1_5
        case hir1_5 => simp only [List.getElem?_toArray, List.getElem?_cons_succ, List.getElem?_cons_zero]; rfl
        case hqr1_5 => exact fun _ _ _ h => h
        case hyr1_5 => (refine Or.inl ⟨by rfl, ?_⟩; intro w hSw; (try dsimp only at hSw); go_simp; all_goals with_reducible rfl)
        try simp only [Act.put, List.setIfInBounds_toArray, List.set_cons_zero, List.set_cons_succ]
        refine wpAnyH_take (i := 6) (oi := ?oir1_6) (v := ?vr1_6) ?hir1_6 (by kernel_rfl) (by kernel_rfl) (by kernel_rfl) ?hqr1_6 ?hyr1_6 (by assumption) ?restr1_6
        case hir1_6 => simp only [List.getElem?_toArray, List.getElem?_cons_succ, List.getElem?_cons_zero]; rfl
        case hqr1_6 => exact fun _ _ _ h => h
        case hyr1_6 => (refine Or.inl ⟨by rfl, ?_⟩; intro w hSw; (try dsimp only at hSw); go_simp; all_goals with_reducible rfl)
        try simp only [Act.put, List.setIfInBounds_toArray, List.set_cons_zero, List.set_cons_succ]
        refine wpAnyH_take (i := 7) (oi := ?oir1_7) (v := ?vr1_7) ?hir1_7 (by kernel_rfl) (by kernel_rfl) (by kernel_rfl) ?hqr1_7 ?hyr1_7 (by assumption) ?restr1_7
        case hir1_7 => simp only [List.getElem?_toArray, List.getElem?_cons_succ, List.getElem?_cons_zero]; rfl
        case hqr1_7 => exact fun _ _ _ h => h
        case hyr1_7 => (refine Or.inl ⟨by rfl, ?_⟩; intro w hSw; (try dsimp only at hSw); go_simp; all_goals with_reducible rfl)
        try simp only [Act.put, List.setIfInBounds_toArray, List.set_cons_zero, List.set_cons_succ]
        refine wpAnyH_take (i := 8) (oi := ?oir1_8) (v := ?vr1_8) ?hir1_8 (by kernel_rfl) (by kernel_rfl) (by kernel_rfl) ?hqr1_8 ?hyr1_8 (by assumption) ?restr1_8
        case hir1_8 => simp only [List.getElem?_toArray, List.getElem?_cons_succ, List.getElem?_cons_zero]; rfl
        case hqr1_8 => exact fun _ _ _ h => h
        case hyr1_8 => (refine Or.inl ⟨by rfl, ?_⟩; intro w hSw; (try dsimp only at hSw); go_simp; all_goals with_reducible rfl)
        try simp only [Act.put, List.setIfInBounds_toArray, List.set_cons_zero, List.set_cons_succ]
        refine wpAnyH_done (by kernel_rfl) ?_ _
        clear hHeld kx ky
        go_wp2_with fail
        go_roundw
        case rel => exact ⟨i + 1, by omega, by go_num, B101, Lib.hid fun k hk => by
                      by_cases hki : k < i
                      · exact hS.out k hki
                      · obtain rfl : k = i := by omega
                        exact HXI.out.trans HYI.out.symm⟩
        case measure => simp [intOf]; omega
      case neg =>
        have e1 : (x != y) = true := by simpa using e
        have HF := Lib.hid (show r = false by rw [← HR.out]; exact decide_eq_false (Ints_diff (k := i) (by rw [HXI.out, HYI.out]; exact e)))
        go_upto_region 6 with fail
        have hb := (Below.refl wr.heap.size wr).drew
        replace kx := cell_below hb kx
        replace ky := cell_below hb ky
        have B101 := B100.trans (hb.mono B100.size)
        clear hb B100
        refine wp_region_held_drew (S := (fun w' => w'.cell? ⟨b, off + i, none⟩ = some (.int .i64 x) ∧ w'.cell? ⟨b', off' + i, none⟩ = some (.int .i64 y) ∧ True)) (by kernel_rfl) ?_ (fun hHeld => ?_)
        · exact ⟨kx, ky, trivial⟩
        generalize wr.drew = w101 at *
        refine wpAnyH_take (i := 0) (oi := ?oir2_0) (v := ?vr2_0) ?hir2_0 (by kernel_rfl) (by kernel_rfl) (by kernel_rfl) ?hqr2_0 ?hyr2_0 (by assumption) ?restr2_0
        case hir2_0 => simp only [List.getElem?_toArray, List.getElem?_cons_succ, List.getElem?_cons_zero]; rfl
        case hqr2_0 => exact fun _ _ _ h => h
        case hyr2_0 => (refine Or.inl ⟨by rfl, ?_⟩; intro w hSw; (try dsimp only at hSw); go_simp; all_goals with_reducible rfl)
        try simp only [Act.put, List.setIfInBounds_toArray, List.set_cons_zero, List.set_cons_succ]
        refine wpAnyH_take (i := 1) (oi := ?oir2_1) (v := ?vr2_1) ?hir2_1 (by kernel_rfl) (by kernel_rfl) (by kernel_rfl) ?hqr2_1 ?hyr2_1 (by assumption) ?restr2_1
        case hir2_1 => simp only [List.getElem?_toArray, List.getElem?_cons_succ, List.getElem?_cons_zero]; rfl
        case hqr2_1 => exact fun _ _ _ h => h
        case hyr2_1 => (refine Or.inl ⟨by rfl, ?_⟩; intro w hSw; (try dsimp only at hSw); go_simp; all_goals with_reducible rfl)
        try simp only [Act.put, List.setIfInBounds_toArray, List.set_cons_zero, List.set_cons_succ]
        refine wpAnyH_take (i := 2) (oi := ?oir2_2) (v := ?vr2_2) ?hir2_2 (by kernel_rfl) (by kernel_rfl) (by kernel_rfl) ?hqr2_2 ?hyr2_2 (by assumption) ?restr2_2
        case hir2_2 => simp only [List.getElem?_toArray, List.getElem?_cons_succ, List.getElem?_cons_zero]; rfl
        case hqr2_2 => exact fun _ _ _ h => h
        case hyr2_2 => (refine Or.inl ⟨by rfl, ?_⟩; intro w hSw; (try dsimp only at hSw); go_simp; all_goals with_reducible rfl)
        try simp only [Act.put, List.setIfInBounds_toArray, List.set_cons_zero, List.set_cons_succ]
        refine wpAnyH_take (i := 3) (oi := ?oir2_3) (v := ?vr2_3) ?hir2_3 (by kernel_rfl) (by kernel_rfl) (by kernel_rfl) ?hqr2_3 ?hyr2_3 (by assumption) ?restr2_3
        case hir2_3 => simp only [List.getElem?_toArray, List.getElem?_cons_succ, List.getElem?_cons_zero]; rfl
        case hqr2_3 => exact fun _ _ _ h => h
        case hyr2_3 => (refine Or.inl ⟨by rfl, ?_⟩; intro w hSw; (try dsimp only at hSw); go_simp; all_goals with_reducible rfl)
        try simp only [Act.put, List.setIfInBounds_toArray, List.set_cons_zero, List.set_cons_succ]
        refine wpAnyH_take (i := 4) (oi := ?oir2_4) (v := ?vr2_4) ?hir2_4 (by kernel_rfl) (by kernel_rfl) (by kernel_rfl) ?hqr2_4 ?hyr2_4 (by assumption) ?restr2_4
        case hir2_4 => simp only [List.getElem?_toArray, List.getElem?_cons_succ, List.getElem?_cons_zero]; rfl
        case hqr2_4 => exact fun _ _ _ h => h
        case hyr2_4 => (refine Or.inl ⟨by rfl, ?_⟩; intro w hSw; (try dsimp only at hSw); go_simp; all_goals with_reducible rfl)
        try simp only [Act.put, List.setIfInBounds_toArray, List.set_cons_zero, List.set_cons_succ]
        refine wpAnyH_take (i := 5) (oi := ?oir2_5) (v := ?vr2_5) ?hir2_5 (by kernel_rfl) (by kernel_rfl) (by kernel_rfl) ?hqr2_5 ?hyr2_5 (by assumption) ?restr2_5
        case hir2_5 => simp only [List.getElem?_toArray, List.getElem?_cons_succ, List.getElem?_cons_zero]; rfl
        case hqr2_5 => exact fun _ _ _ h => h
        case hyr2_5 => (refine Or.inl ⟨by rfl, ?_⟩; intro w hSw; (try dsimp only at hSw); go_simp; all_goals with_reducible rfl)
        try simp only [Act.put, List.setIfInBounds_toArray, List.set_cons_zero, List.set_cons_succ]
        refine wpAnyH_take (i := 6) (oi := ?oir2_6) (v := ?vr2_6) ?hir2_6 (by kernel_rfl) (by kernel_rfl) (by kernel_rfl) ?hqr2_6 ?hyr2_6 (by assumption) ?restr2_6
        case hir2_6 => simp only [List.getElem?_toArray, List.getElem?_cons_succ, List.getElem?_cons_zero]; rfl
        case hqr2_6 => exact fun _ _ _ h => h
        case hyr2_6 => (refine Or.inl ⟨by rfl, ?_⟩; intro w hSw; (try dsimp only at hSw); go_simp; all_goals with_reducible rfl)
        try simp only [Act.put, List.setIfInBounds_toArray, List.set_cons_zero, List.set_cons_succ]
        refine wpAnyH_take (i := 7) (oi := ?oir2_7) (v := ?vr2_7) ?hir2_7 (by kernel_rfl) (by kernel_rfl) (by kernel_rfl) ?hqr2_7 ?hyr2_7 (by assumption) ?restr2_7
        case hir2_7 => simp only [List.getElem?_toArray, List.getElem?_cons_succ, List.getElem?_cons_zero]; rfl
        case hqr2_7 => exact fun _ _ _ h => h
        case hyr2_7 => (refine Or.inl ⟨by rfl, ?_⟩; intro w hSw; (try dsimp only at hSw); go_simp; all_goals with_reducible rfl)
        try simp only [Act.put, List.setIfInBounds_toArray, List.set_cons_zero, List.set_cons_succ]
        refine wpAnyH_take (i := 8) (oi := ?oir2_8) (v := ?vr2_8) ?hir2_8 (by kernel_rfl) (by kernel_rfl) (by kernel_rfl) ?hqr2_8 ?hyr2_8 (by assumption) ?restr2_8
        case hir2_8 => simp only [List.getElem?_toArray, List.getElem?_cons_succ, List.getElem?_cons_zero]; rfl
        case hqr2_8 => exact fun _ _ _ h => h
        case hyr2_8 => (refine Or.inl ⟨by rfl, ?_⟩; intro w hSw; (try dsimp only at hSw); go_simp; all_goals with_reducible rfl)
        try simp only [Act.put, List.setIfInBounds_toArray, List.set_cons_zero, List.set_cons_succ]
        refine wpAnyH_done (by kernel_rfl) ?_ _
        clear hHeld kx ky
        go_wp2_with fail
        go_ret
        exact ⟨by rw [HF.out]; rfl, B101⟩

set_option maxRecDepth 100000 in
set_option maxHeartbeats 2000000 in
theorem ballSame_any (w : World) (kx : Nat) (hkx : kx < 256) (ky : Nat) (hky : ky < 256) {a_x : Option Addr} {n_x c_x : Nat} {xs : List Int} (h_x : RdI w a_x n_x c_x xs) {a_y : Option Addr} {n_y c_y : Nat} {ys : List Int} (h_y : RdI w a_y n_y c_y ys) : Calls Try.prog 19 #[.agg #[.int .u8 ((kx : Nat) : Int), .slice a_x n_x c_x], .agg #[.int .u8 ((ky : Nat) : Int), .slice a_y n_y c_y]] w (fun e w' => e = .returned (.bool (decide (kx = ky) && decide (xs = ys))) ∧ Below w.heap.size w w') := by
  have B0 : Below w.heap.size w w := Below.refl _ _
  have h_x_0 := h_x
  have h_y_0 := h_y
  go_enter Try.func19, Try.ntmps19
  have hb := below_al w (.cells #[.int .u8 ((kx : Nat) : Int), .slice a_x n_x c_x] 39)
  have B1 := B0.trans (hb.mono B0.size)
  have h_x_1 := h_x_0.below hb
  have h_y_1 := h_y_0.below hb
  clear hb B0 h_x_0 h_y_0
  have h_p_1 := PRow.new 39 w #[.int .u8 ((kx : Nat) : Int), .slice a_x n_x c_x]
  have hb := below_al (w.alloc (.cells #[.int .u8 ((kx : Nat) : Int), .slice a_x n_x c_x] 39)) (.cells #[.int .u8 ((ky : Nat) : Int), .slice a_y n_y c_y] 39)
  have B2 := B1.trans (hb.mono B1.size)
  have h_x_2 := h_x_1.below hb
  have h_y_2 := h_y_1.below hb
  have h_p_2 := h_p_1.later hb
  clear hb B1 h_x_1 h_y_1 h_p_1
  have h_q_2 := PRow.new 39 (w.alloc (.cells #[.int .u8 ((kx : Nat) : Int), .slice a_x n_x c_x] 39)) #[.int .u8 ((ky : Nat) : Int), .slice a_y n_y c_y]
  simp only [World.size_alloc] at h_q_2
  obtain ⟨di, hdi⟩ : ∃ di, decide (xs = ys) = di := ⟨_, rfl⟩
  rw [hdi]
  have HDI := Lib.hid hdi
  clear hdi
  by_cases e : kx = ky
  case pos =>
    have e1 : (((kx : Nat) : Int) == ((ky : Nat) : Int)) = true := by simp; omega
    have HE := Lib.hid e
    clear e
    have k_p_0 := h_p_2.cell 0 _ rfl
    have k_p_1 := h_p_2.cell 1 _ rfl
    have k_q_0 := h_q_2.cell 0 _ rfl
    have k_q_1 := h_q_2.cell 1 _ rfl
    go_wp2_with fail
    clear k_p_0 k_p_1 k_q_0 k_q_1
    generalize ((w.alloc (.cells #[.int .u8 ((kx : Nat) : Int), .slice a_x n_x c_x] 39)).alloc (.cells #[.int .u8 ((ky : Nat) : Int), .slice a_y n_y c_y] 39)) = w2 at *
    have c := Ints_any w2 h_x_2 h_y_2
    rw [HDI.out] at c
    refine c.mono ?_
    rintro e w3 ⟨rfl, hb⟩
    clear c
    have B3 := B2.trans (hb.mono B2.size)
    have h_x_3 := h_x_2.below hb
    have h_y_3 := h_y_2.below hb
    have h_p_3 := h_p_2.later hb
    have h_q_3 := h_q_2.later hb
    clear hb B2 h_x_2 h_y_2 h_p_2 h_q_2
    go_wp2_with fail
    go_ret
    exact ⟨by simp [HE.out], B3⟩
  case neg =>
    have e1 : (((kx : Nat) : Int) == ((ky : Nat) : Int)) = false := by simp; omega
    have k_p_0 := h_p_2.cell 0 _ rfl
    have k_p_1 := h_p_2.cell 1 _ rfl
    have k_q_0 := h_q_2.cell 0 _ rfl
    have k_q_1 := h_q_2.cell 1 _ rfl
    go_wp2_with fail
    clear k_p_0 k_p_1 k_q_0 k_q_1
    generalize ((w.alloc (.cells #[.int .u8 ((kx : Nat) : Int), .slice a_x n_x c_x] 39)).alloc (.cells #[.int .u8 ((ky : Nat) : Int), .slice a_y n_y c_y] 39)) = w2 at *
    go_ret
    exact ⟨by simp [e], B2⟩

set_option maxRecDepth 100000 in
set_option maxHeartbeats 2000000 in
theorem ballGreat_any (w : World) (kd : Nat) (hk : kd < 256) {a_m : Option Addr} {n_m c_m : Nat} {ms : List Int} (h_m : RdI w a_m n_m c_m ms) : Calls Try.prog 16 #[.agg #[.int .u8 ((kd : Nat) : Int), .slice a_m n_m c_m]] w (fun e w' => e = .returned (.bool (decide (60 < n_m))) ∧ Below w.heap.size w w') := by
  have B0 : Below w.heap.size w w := Below.refl _ _
  go_enter Try.func16, Try.ntmps16
  have hnm := h_m.lt
  have hb := below_al w (.cells #[.int .u8 ((kd : Nat) : Int), .slice a_m n_m c_m] 39)
  have B1 := B0.trans (hb.mono B0.size)
  clear hb B0
  have h_b_1 := PRow.new 39 w #[.int .u8 ((kd : Nat) : Int), .slice a_m n_m c_m]
  have k_b_0 := h_b_1.cell 0 _ rfl
  have k_b_1 := h_b_1.cell 1 _ rfl
  go_wp2_with fail
  clear k_b_0 k_b_1
  generalize (w.alloc (.cells #[.int .u8 ((kd : Nat) : Int), .slice a_m n_m c_m] 39)) = w1 at *
  go_ret
  exact ⟨by congr 2; simp; omega, B1⟩

set_option maxRecDepth 100000 in
set_option maxHeartbeats 2000000 in
theorem readSame_any (w : World) (kx : Nat) (hkx : kx < 256) (ky : Nat) (hky : ky < 256) {a_x : Option Addr} {n_x c_x : Nat} {xs : List Int} (h_x : RdI w a_x n_x c_x xs) {a_y : Option Addr} {n_y c_y : Nat} {ys : List Int} (h_y : RdI w a_y n_y c_y ys) (ox oy : Int) {a_u : Option Addr} {n_u c_u : Nat} {us : List Int} (h_u : RdI w a_u n_u c_u us) {a_v : Option Addr} {n_v c_v : Nat} {vs : List Int} (h_v : RdI w a_v n_v c_v vs) : Calls Try.prog 22 #[.agg #[.int .u8 ((kx : Nat) : Int), .slice a_x n_x c_x, .int .i64 ox, .slice a_u n_u c_u], .agg #[.int .u8 ((ky : Nat) : Int), .slice a_y n_y c_y, .int .i64 oy, .slice a_v n_v c_v]] w (fun e w' => e = .returned (.bool ((decide (kx = ky) && decide (xs = ys)) && decide (ox = oy) && decide (us = vs))) ∧ Below w.heap.size w w') := by
  have B0 : Below w.heap.size w w := Below.refl _ _
  have h_x_0 := h_x
  have h_y_0 := h_y
  have h_u_0 := h_u
  have h_v_0 := h_v
  go_enter Try.func22, Try.ntmps22
  have hb := below_al w (.cells #[.int .u8 ((kx : Nat) : Int), .slice a_x n_x c_x, .int .i64 ox, .slice a_u n_u c_u] 51)
  have B1 := B0.trans (hb.mono B0.size)
  have h_x_1 := h_x_0.below hb
  have h_y_1 := h_y_0.below hb
  have h_u_1 := h_u_0.below hb
  have h_v_1 := h_v_0.below hb
  clear hb B0 h_x_0 h_y_0 h_u_0 h_v_0
  have h_p_1 := PRow.new 51 w #[.int .u8 ((kx : Nat) : Int), .slice a_x n_x c_x, .int .i64 ox, .slice a_u n_u c_u]
  have hb := below_al (w.alloc (.cells #[.int .u8 ((kx : Nat) : Int), .slice a_x n_x c_x, .int .i64 ox, .slice a_u n_u c_u] 51)) (.cells #[.int .u8 ((ky : Nat) : Int), .slice a_y n_y c_y, .int .i64 oy, .slice a_v n_v c_v] 51)
  have B2 := B1.trans (hb.mono B1.size)
  have h_x_2 := h_x_1.below hb
  have h_y_2 := h_y_1.below hb
  have h_u_2 := h_u_1.below hb
  have h_v_2 := h_v_1.below hb
  have h_p_2 := h_p_1.later hb
  clear hb B1 h_x_1 h_y_1 h_u_1 h_v_1 h_p_1
  have h_q_2 := PRow.new 51 (w.alloc (.cells #[.int .u8 ((kx : Nat) : Int), .slice a_x n_x c_x, .int .i64 ox, .slice a_u n_u c_u] 51)) #[.int .u8 ((ky : Nat) : Int), .slice a_y n_y c_y, .int .i64 oy, .slice a_v n_v c_v]
  simp only [World.size_alloc] at h_q_2
  obtain ⟨ba, hba⟩ : ∃ ba, (decide (kx = ky) && decide (xs = ys)) = ba := ⟨_, rfl⟩
  rw [hba]
  have HBA := Lib.hid hba
  clear hba
  obtain ⟨di, hdi⟩ : ∃ di, decide (us = vs) = di := ⟨_, rfl⟩
  rw [hdi]
  have HDI := Lib.hid hdi
  clear hdi
  have k_p_0 := h_p_2.cell 0 _ rfl
  have k_p_1 := h_p_2.cell 1 _ rfl
  have k_p_2 := h_p_2.cell 2 _ rfl
  have k_p_3 := h_p_2.cell 3 _ rfl
  have k_q_0 := h_q_2.cell 0 _ rfl
  have k_q_1 := h_q_2.cell 1 _ rfl
  have k_q_2 := h_q_2.cell 2 _ rfl
  have k_q_3 := h_q_2.cell 3 _ rfl
  go_wp2_with fail
  clear k_p_0 k_p_1 k_p_2 k_p_3 k_q_0 k_q_1 k_q_2 k_q_3
  generalize ((w.alloc (.cells #[.int .u8 ((kx : Nat) : Int), .slice a_x n_x c_x, .int .i64 ox, .slice a_u n_u c_u] 51)).alloc (.cells #[.int .u8 ((ky : Nat) : Int), .slice a_y n_y c_y, .int .i64 oy, .slice a_v n_v c_v] 51)) = w2 at *
  have c := ballSame_any w2 kx hkx ky hky h_x_2 h_y_2
  rw [HBA.out] at c
  refine c.mono ?_
  rintro e w3 ⟨rfl, hb⟩
  clear c
  have B3 := B2.trans (hb.mono B2.size)
  have h_x_3 := h_x_2.below hb
  have h_y_3 := h_y_2.below hb
  have h_u_3 := h_u_2.below hb
  have h_v_3 := h_v_2.below hb
  have h_p_3 := h_p_2.later hb
  have h_q_3 := h_q_2.later hb
  clear hb B2 h_x_2 h_y_2 h_u_2 h_v_2 h_p_2 h_q_2
  cases ba
  case false =>
    have k_p_0 := h_p_3.cell 0 _ rfl
    have k_p_1 := h_p_3.cell 1 _ rfl
    have k_p_2 := h_p_3.cell 2 _ rfl
    have k_p_3 := h_p_3.cell 3 _ rfl
    have k_q_0 := h_q_3.cell 0 _ rfl
    have k_q_1 := h_q_3.cell 1 _ rfl
    have k_q_2 := h_q_3.cell 2 _ rfl
    have k_q_3 := h_q_3.cell 3 _ rfl
    go_wp2_with fail
    clear k_p_0 k_p_1 k_p_2 k_p_3 k_q_0 k_q_1 k_q_2 k_q_3
    go_ret
    exact ⟨by simp, B3⟩
  by_cases e : ox = oy
  case pos =>
    subst e
    have e1 : (ox == ox) = true := by simp
    have k_p_0 := h_p_3.cell 0 _ rfl
    have k_p_1 := h_p_3.cell 1 _ rfl
    have k_p_2 := h_p_3.cell 2 _ rfl
    have k_p_3 := h_p_3.cell 3 _ rfl
    have k_q_0 := h_q_3.cell 0 _ rfl
    have k_q_1 := h_q_3.cell 1 _ rfl
    have k_q_2 := h_q_3.cell 2 _ rfl
    have k_q_3 := h_q_3.cell 3 _ rfl
    go_wp2_with fail
    clear k_p_0 k_p_1 k_p_2 k_p_3 k_q_0 k_q_1 k_q_2 k_q_3
    have c := Ints_any w3 h_u_3 h_v_3
    rw [HDI.out] at c
    refine c.mono ?_
    rintro e w4 ⟨rfl, hb⟩
    clear c
    have B4 := B3.trans (hb.mono B3.size)
    have h_x_4 := h_x_3.below hb
    have h_y_4 := h_y_3.below hb
    have h_u_4 := h_u_3.below hb
    have h_v_4 := h_v_3.below hb
    have h_p_4 := h_p_3.later hb
    have h_q_4 := h_q_3.later hb
    clear hb B3 h_x_3 h_y_3 h_u_3 h_v_3 h_p_3 h_q_3
    go_wp2_with fail
    go_ret
    exact ⟨by simp, B4⟩
  case neg =>
    have e1 : (ox == oy) = false := by simpa using e
    have k_p_0 := h_p_3.cell 0 _ rfl
    have k_p_1 := h_p_3.cell 1 _ rfl
    have k_p_2 := h_p_3.cell 2 _ rfl
    have k_p_3 := h_p_3.cell 3 _ rfl
    have k_q_0 := h_q_3.cell 0 _ rfl
    have k_q_1 := h_q_3.cell 1 _ rfl
    have k_q_2 := h_q_3.cell 2 _ rfl
    have k_q_3 := h_q_3.cell 3 _ rfl
    go_wp2_with fail
    clear k_p_0 k_p_1 k_p_2 k_p_3 k_q_0 k_q_1 k_q_2 k_q_3
    go_ret
    exact ⟨by simp [e], B3⟩

set_option maxRecDepth 100000 in
set_option maxHeartbeats 4000000 in
theorem Fits_any (w : World) (nm : ByteArray) {a_s : Option Addr} {n_s c_s : Nat} {ss : List ByteArray} (h_s : RdS w a_s n_s c_s ss) (seats : Int) (hs1 : -9223372036854775808 ≤ seats) (hs2 : seats ≤ 9223372036854775807) (rule : Nat) (hr : rule < 256) (kd : Nat) (hk : kd < 256) {a_m : Option Addr} {n_m c_m : Nat} {ms : List Int} (h_m : RdI w a_m n_m c_m ms) (hR : isR rule = true) (hn1 : 1 ≤ n_s) (hn2 : n_s ≤ 10) : Calls Try.prog 36 #[.agg #[.string nm, .slice a_s n_s c_s, .int .i64 seats, .int .u8 ((rule : Nat) : Int)], .agg #[.int .u8 ((kd : Nat) : Int), .slice a_m n_m c_m]] w (fun e w' => e = .returned (.bool (fitsB ss rule kd ms)) ∧ Below w.heap.size w w') := by
  have HN := Lib.hid h_s.len
  have HM := Lib.hid h_m.len
  have hnm := h_m.lt
  have hns := h_s.lt
  obtain ⟨r, hr0⟩ : ∃ r, fitsB ss rule kd ms = r := ⟨_, rfl⟩
  rw [hr0]
  have HR := Lib.hid hr0
  clear hr0
  have HKO := Lib.hid (kindOf_eq rule hR)
  obtain ⟨k, hk0⟩ : ∃ k, kindN rule = k := ⟨_, rfl⟩
  have HK := Lib.hid hk0
  clear hk0
  obtain ⟨fq, hfq⟩ : ∃ fq, fineQ kd ms (n_s : Nat) = fq := ⟨_, rfl⟩
  have HFQ := Lib.hid hfq
  clear hfq
  obtain ⟨mo, hmo⟩ : ∃ mo, marksN rule (n_s : Nat) = mo := ⟨_, rfl⟩
  have HMO := Lib.hid hmo
  have hmob : -9223372036854775808 ≤ mo ∧ mo ≤ 9223372036854775807 := by rw [← hmo]; unfold marksN; split <;> omega
  clear hmo
  have B0 : Below w.heap.size w w := Below.refl _ _
  have h_s_0 := h_s
  have h_m_0 := h_m
  go_enter Try.func36, Try.ntmps36
  have hb := below_al w (.cells #[.string nm, .slice a_s n_s c_s, .int .i64 seats, .int .u8 ((rule : Nat) : Int)] 24)
  have B1 := B0.trans (hb.mono B0.size)
  have h_s_1 := h_s_0.below hb
  have h_m_1 := h_m_0.below hb
  clear hb B0 h_s_0 h_m_0
  have h_c_1 := PRow.new 24 w #[.string nm, .slice a_s n_s c_s, .int .i64 seats, .int .u8 ((rule : Nat) : Int)]
  have hb := below_al (w.alloc (.cells #[.string nm, .slice a_s n_s c_s, .int .i64 seats, .int .u8 ((rule : Nat) : Int)] 24)) (.cells #[.int .u8 ((kd : Nat) : Int), .slice a_m n_m c_m] 39)
  have B2 := B1.trans (hb.mono B1.size)
  have h_s_2 := h_s_1.below hb
  have h_m_2 := h_m_1.below hb
  have h_c_2 := h_c_1.later hb
  clear hb B1 h_s_1 h_m_1 h_c_1
  have h_b_2 := PRow.new 39 (w.alloc (.cells #[.string nm, .slice a_s n_s c_s, .int .i64 seats, .int .u8 ((rule : Nat) : Int)] 24)) #[.int .u8 ((kd : Nat) : Int), .slice a_m n_m c_m]
  simp only [World.size_alloc] at h_b_2
  by_cases hkk : kd = k
  case neg =>
    have e1 : (((kd : Nat) : Int) != ((k : Nat) : Int)) = true := by simp; omega
    have HF := Lib.hid (show r = false by rw [← HR.out]; exact fits_no (fun h => hkk (by rw [← HK.out]; exact h.1)))
    go_upto_region 1 with fail
    generalize ((w.alloc (.cells #[.string nm, .slice a_s n_s c_s, .int .i64 seats, .int .u8 ((rule : Nat) : Int)] 24)).alloc (.cells #[.int .u8 ((kd : Nat) : Int), .slice a_m n_m c_m] 39)) = w2 at *
    have hb := (Below.refl w2.heap.size w2).drew
    have B3 := B2.trans (hb.mono B2.size)
    have h_s_3 := h_s_2.below hb
    have h_m_3 := h_m_2.below hb
    have h_c_3 := h_c_2.later hb
    have h_b_3 := h_b_2.later hb
    clear hb B2 h_s_2 h_m_2 h_c_2 h_b_2
    refine wp_region_held_drew (S := (fun w' => w'.cell? ⟨w.heap.size, 0, none⟩ = some (.string nm) ∧ w'.cell? ⟨w.heap.size, 1, none⟩ = some (.slice a_s n_s c_s) ∧ w'.cell? ⟨w.heap.size, 2, none⟩ = some (.int .i64 seats) ∧ w'.cell? ⟨w.heap.size, 3, none⟩ = some (.int .u8 ((rule : Nat) : Int)) ∧ w'.cell? ⟨w.heap.size + 1, 0, none⟩ = some (.int .u8 ((kd : Nat) : Int)) ∧ w'.cell? ⟨w.heap.size + 1, 1, none⟩ = some (.slice a_m n_m c_m) ∧ True)) (by kernel_rfl) ?_ (fun hHeld => ?_)
    · exact ⟨h_c_3.cell 0 _ rfl, h_c_3.cell 1 _ rfl, h_c_3.cell 2 _ rfl, h_c_3.cell 3 _ rfl, h_b_3.cell 0 _ rfl, h_b_3.cell 1 _ rfl, trivial⟩
    generalize w2.drew = w3 at *
    refine wpAnyH_take (i := 0) (oi := ?oir3_0) (v := ?vr3_0) ?hir3_0 (by kernel_rfl) (by kernel_rfl) (by kernel_rfl) ?hqr3_0 ?hyr3_0 (by assumption) ?restr3_0
    case hir3_0 => simp only [List.getElem?_toArray, List.getElem?_cons_succ, List.getElem?_cons_zero]; rfl
    case hqr3_0 => exact fun _ _ _ h => h
    case hyr3_0 => (refine Or.inl ⟨by rfl, ?_⟩; intro w hSw; (try dsimp only at hSw); go_simp; all_goals with_reducible rfl)
    try simp only [Act.put, List.setIfInBounds_toArray, List.set_cons_zero, List.set_cons_succ]
    refine wpAnyH_take (i := 1) (oi := ?oir3_1) (v := ?vr3_1) ?hir3_1 (by kernel_rfl) (by kernel_rfl) (by kernel_rfl) ?hqr3_1 ?hyr3_1 (by assumption) ?restr3_1
    case hir3_1 => simp only [List.getElem?_toArray, List.getElem?_cons_succ, List.getElem?_cons_zero]; rfl
    case hqr3_1 => exact fun _ _ _ h => h
    case hyr3_1 => (refine Or.inl ⟨by rfl, ?_⟩; intro w hSw; (try dsimp only at hSw); go_simp; all_goals with_reducible rfl)
    try simp only [Act.put, List.setIfInBounds_toArray, List.set_cons_zero, List.set_cons_succ]
    refine wpAnyH_take (i := 2) (oi := ?oir3_2) (v := ?vr3_2) ?hir3_2 (by kernel_rfl) (by kernel_rfl) (by kernel_rfl) ?hqr3_2 ?hyr3_2 (by assumption) ?restr3_2
    case hir3_2 => simp only [List.getElem?_toArray, List.getElem?_cons_succ, List.getElem?_cons_zero]; rfl
    case hqr3_2 => exact fun _ _ _ h => h
    case hyr3_2 => (refine Or.inl ⟨by rfl, ?_⟩; intro w hSw; (try dsimp only at hSw); go_simp; all_goals with_reducible rfl)
    try simp only [Act.put, List.setIfInBounds_toArray, List.set_cons_zero, List.set_cons_succ]
    refine wpAnyH_take (i := 3) (oi := ?oir3_3) (v := ?vr3_3) ?hir3_3 (by kernel_rfl) (by kernel_rfl) (by kernel_rfl) ?hqr3_3 ?hyr3_3 (by assumption) ?restr3_3
    case hir3_3 => simp only [List.getElem?_toArray, List.getElem?_cons_succ, List.getElem?_cons_zero]; rfl
    case hqr3_3 => exact fun _ _ _ h => h
    case hyr3_3 => (refine Or.inl ⟨by rfl, ?_⟩; intro w hSw; (try dsimp only at hSw); go_simp; all_goals with_reducible rfl)
    try simp only [Act.put, List.setIfInBounds_toArray, List.set_cons_zero, List.set_cons_succ]
    refine wpAnyH_ready (rs := [4]) (by kernel_rfl) (by simp) ?_
    refine AllReadyH.cons (o := ?or4_4) ?hor4_4 (fun K hK => ?kr4_4) AllReadyH.nil
    case hor4_4 => simp only [List.getElem?_toArray, List.getElem?_cons_succ, List.getElem?_cons_zero]; rfl
    go_simp
    refine (KindOf_any _ rule hr).mono ?_
    rintro e w9 ⟨rfl, hw9⟩
    subst hw9
    rw [HKO.out, HK.out]
    go_wp2_with fail
    clear hHeld
    refine hK.out _ _ ?_ (fun hHeld => ?_)
    · exact ⟨h_c_3.cell 0 _ rfl, h_c_3.cell 1 _ rfl, h_c_3.cell 2 _ rfl, h_c_3.cell 3 _ rfl, h_b_3.cell 0 _ rfl, h_b_3.cell 1 _ rfl, trivial⟩
    clear hK K
    try simp only [Act.put, List.setIfInBounds_toArray, List.set_cons_zero, List.set_cons_succ]
    refine wpAnyH_take (i := 5) (oi := ?oir5_5) (v := ?vr5_5) ?hir5_5 (by kernel_rfl) (by kernel_rfl) (by kernel_rfl) ?hqr5_5 ?hyr5_5 (by assumption) ?restr5_5
    case hir5_5 => simp only [List.getElem?_toArray, List.getElem?_cons_succ, List.getElem?_cons_zero]; rfl
    case hqr5_5 => exact fun _ _ _ h => h
    case hyr5_5 => (refine Or.inl ⟨by rfl, ?_⟩; intro w hSw; (try dsimp only at hSw); go_simp; all_goals with_reducible rfl)
    try simp only [Act.put, List.setIfInBounds_toArray, List.set_cons_zero, List.set_cons_succ]
    refine wpAnyH_take (i := 6) (oi := ?oir5_6) (v := ?vr5_6) ?hir5_6 (by kernel_rfl) (by kernel_rfl) (by kernel_rfl) ?hqr5_6 ?hyr5_6 (by assumption) ?restr5_6
    case hir5_6 => simp only [List.getElem?_toArray, List.getElem?_cons_succ, List.getElem?_cons_zero]; rfl
    case hqr5_6 => exact fun _ _ _ h => h
    case hyr5_6 => (refine Or.inl ⟨by rfl, ?_⟩; intro w hSw; (try dsimp only at hSw); go_simp; all_goals with_reducible rfl)
    try simp only [Act.put, List.setIfInBounds_toArray, List.set_cons_zero, List.set_cons_succ]
    refine wpAnyH_take (i := 7) (oi := ?oir5_7) (v := undef) ?hir5_7 (by kernel_rfl) (by kernel_rfl) (by kernel_rfl) ?hqr5_7 ?hyr5_7 (by assumption) ?restr5_7
    case hir5_7 => simp only [List.getElem?_toArray, List.getElem?_cons_succ, List.getElem?_cons_zero]; rfl
    case hqr5_7 => exact fun _ _ _ h => h
    case hyr5_7 => exact Or.inr ⟨by rfl, rfl⟩
    try simp only [Act.put, List.setIfInBounds_toArray, List.set_cons_zero, List.set_cons_succ]
    refine wpAnyH_take (i := 8) (oi := ?oir5_8) (v := undef) ?hir5_8 (by kernel_rfl) (by kernel_rfl) (by kernel_rfl) ?hqr5_8 ?hyr5_8 (by assumption) ?restr5_8
    case hir5_8 => simp only [List.getElem?_toArray, List.getElem?_cons_succ, List.getElem?_cons_zero]; rfl
    case hqr5_8 => exact fun _ _ _ h => h
    case hyr5_8 => exact Or.inr ⟨by rfl, rfl⟩
    try simp only [Act.put, List.setIfInBounds_toArray, List.set_cons_zero, List.set_cons_succ]
    refine wpAnyH_take (i := 9) (oi := ?oir5_9) (v := undef) ?hir5_9 (by kernel_rfl) (by kernel_rfl) (by kernel_rfl) ?hqr5_9 ?hyr5_9 (by assumption) ?restr5_9
    case hir5_9 => simp only [List.getElem?_toArray, List.getElem?_cons_succ, List.getElem?_cons_zero]; rfl
    case hqr5_9 => exact fun _ _ _ h => h
    case hyr5_9 => exact Or.inr ⟨by rfl, rfl⟩
    try simp only [Act.put, List.setIfInBounds_toArray, List.set_cons_zero, List.set_cons_succ]
    refine wpAnyH_take (i := 10) (oi := ?oir5_10) (v := undef) ?hir5_10 (by kernel_rfl) (by kernel_rfl) (by kernel_rfl) ?hqr5_10 ?hyr5_10 (by assumption) ?restr5_10
    case hir5_10 => simp only [List.getElem?_toArray, List.getElem?_cons_succ, List.getElem?_cons_zero]; rfl
    case hqr5_10 => exact fun _ _ _ h => h
    case hyr5_10 => exact Or.inr ⟨by rfl, rfl⟩
    try simp only [Act.put, List.setIfInBounds_toArray, List.set_cons_zero, List.set_cons_succ]
    refine wpAnyH_take (i := 11) (oi := ?oir5_11) (v := undef) ?hir5_11 (by kernel_rfl) (by kernel_rfl) (by kernel_rfl) ?hqr5_11 ?hyr5_11 (by assumption) ?restr5_11
    case hir5_11 => simp only [List.getElem?_toArray, List.getElem?_cons_succ, List.getElem?_cons_zero]; rfl
    case hqr5_11 => exact fun _ _ _ h => h
    case hyr5_11 => exact Or.inr ⟨by rfl, rfl⟩
    try simp only [Act.put, List.setIfInBounds_toArray, List.set_cons_zero, List.set_cons_succ]
    refine wpAnyH_take (i := 12) (oi := ?oir6_12) (v := undef) ?hir6_12 (by kernel_rfl) (by kernel_rfl) (by kernel_rfl) ?hqr6_12 ?hyr6_12 (by assumption) ?restr6_12
    case hir6_12 => simp only [List.getElem?_toArray, List.getElem?_cons_succ, List.getElem?_cons_zero]; rfl
    case hqr6_12 => exact fun _ _ _ h => h
    case hyr6_12 => exact Or.inr ⟨by rfl, rfl⟩
    try simp only [Act.put, List.setIfInBounds_toArray, List.set_cons_zero, List.set_cons_succ]
    refine wpAnyH_take (i := 13) (oi := ?oir6_13) (v := ?vr6_13) ?hir6_13 (by kernel_rfl) (by kernel_rfl) (by kernel_rfl) ?hqr6_13 ?hyr6_13 (by assumption) ?restr6_13
    case hir6_13 => simp only [List.getElem?_toArray, List.getElem?_cons_succ, List.getElem?_cons_zero]; rfl
    case hqr6_13 => exact fun _ _ _ h => h
    case hyr6_13 => (refine Or.inl ⟨by rfl, ?_⟩; intro w hSw; (try dsimp only at hSw); go_simp; all_goals with_reducible rfl)
    try simp only [Act.put, List.setIfInBounds_toArray, List.set_cons_zero, List.set_cons_succ]
    refine wpAnyH_done (by kernel_rfl) ?_ _
    clear hHeld
    go_wp2_with fail
    go_ret
    exact ⟨by rw [HF.out]; rfl, B3⟩
  subst hkk
  have e0 : (((kd : Nat) : Int) != ((kd : Nat) : Int)) = false := by simp
  go_upto_region 1 with fail
  generalize ((w.alloc (.cells #[.string nm, .slice a_s n_s c_s, .int .i64 seats, .int .u8 ((rule : Nat) : Int)] 24)).alloc (.cells #[.int .u8 ((kd : Nat) : Int), .slice a_m n_m c_m] 39)) = w2 at *
  have hb := (Below.refl w2.heap.size w2).drew
  have B3 := B2.trans (hb.mono B2.size)
  have h_s_3 := h_s_2.below hb
  have h_m_3 := h_m_2.below hb
  have h_c_3 := h_c_2.later hb
  have h_b_3 := h_b_2.later hb
  clear hb B2 h_s_2 h_m_2 h_c_2 h_b_2
  refine wp_region_held_drew (S := (fun w' => w'.cell? ⟨w.heap.size, 0, none⟩ = some (.string nm) ∧ w'.cell? ⟨w.heap.size, 1, none⟩ = some (.slice a_s n_s c_s) ∧ w'.cell? ⟨w.heap.size, 2, none⟩ = some (.int .i64 seats) ∧ w'.cell? ⟨w.heap.size, 3, none⟩ = some (.int .u8 ((rule : Nat) : Int)) ∧ w'.cell? ⟨w.heap.size + 1, 0, none⟩ = some (.int .u8 ((kd : Nat) : Int)) ∧ w'.cell? ⟨w.heap.size + 1, 1, none⟩ = some (.slice a_m n_m c_m) ∧ True)) (by kernel_rfl) ?_ (fun hHeld => ?_)
  · exact ⟨h_c_3.cell 0 _ rfl, h_c_3.cell 1 _ rfl, h_c_3.cell 2 _ rfl, h_c_3.cell 3 _ rfl, h_b_3.cell 0 _ rfl, h_b_3.cell 1 _ rfl, trivial⟩
  generalize w2.drew = w3 at *
  refine wpAnyH_take (i := 0) (oi := ?oir7_0) (v := ?vr7_0) ?hir7_0 (by kernel_rfl) (by kernel_rfl) (by kernel_rfl) ?hqr7_0 ?hyr7_0 (by assumption) ?restr7_0
  case hir7_0 => simp only [List.getElem?_toArray, List.getElem?_cons_succ, List.getElem?_cons_zero]; rfl
  case hqr7_0 => exact fun _ _ _ h => h
  case hyr7_0 => (refine Or.inl ⟨by rfl, ?_⟩; intro w hSw; (try dsimp only at hSw); go_simp; all_goals with_reducible rfl)
  try simp only [Act.put, List.setIfInBounds_toArray, List.set_cons_zero, List.set_cons_succ]
  refine wpAnyH_take (i := 1) (oi := ?oir7_1) (v := ?vr7_1) ?hir7_1 (by kernel_rfl) (by kernel_rfl) (by kernel_rfl) ?hqr7_1 ?hyr7_1 (by assumption) ?restr7_1
  case hir7_1 => simp only [List.getElem?_toArray, List.getElem?_cons_succ, List.getElem?_cons_zero]; rfl
  case hqr7_1 => exact fun _ _ _ h => h
  case hyr7_1 => (refine Or.inl ⟨by rfl, ?_⟩; intro w hSw; (try dsimp only at hSw); go_simp; all_goals with_reducible rfl)
  try simp only [Act.put, List.setIfInBounds_toArray, List.set_cons_zero, List.set_cons_succ]
  refine wpAnyH_take (i := 2) (oi := ?oir7_2) (v := ?vr7_2) ?hir7_2 (by kernel_rfl) (by kernel_rfl) (by kernel_rfl) ?hqr7_2 ?hyr7_2 (by assumption) ?restr7_2
  case hir7_2 => simp only [List.getElem?_toArray, List.getElem?_cons_succ, List.getElem?_cons_zero]; rfl
  case hqr7_2 => exact fun _ _ _ h => h
  case hyr7_2 => (refine Or.inl ⟨by rfl, ?_⟩; intro w hSw; (try dsimp only at hSw); go_simp; all_goals with_reducible rfl)
  try simp only [Act.put, List.setIfInBounds_toArray, List.set_cons_zero, List.set_cons_succ]
  refine wpAnyH_take (i := 3) (oi := ?oir7_3) (v := ?vr7_3) ?hir7_3 (by kernel_rfl) (by kernel_rfl) (by kernel_rfl) ?hqr7_3 ?hyr7_3 (by assumption) ?restr7_3
  case hir7_3 => simp only [List.getElem?_toArray, List.getElem?_cons_succ, List.getElem?_cons_zero]; rfl
  case hqr7_3 => exact fun _ _ _ h => h
  case hyr7_3 => (refine Or.inl ⟨by rfl, ?_⟩; intro w hSw; (try dsimp only at hSw); go_simp; all_goals with_reducible rfl)
  try simp only [Act.put, List.setIfInBounds_toArray, List.set_cons_zero, List.set_cons_succ]
  refine wpAnyH_ready (rs := [4]) (by kernel_rfl) (by simp) ?_
  refine AllReadyH.cons (o := ?or8_4) ?hor8_4 (fun K hK => ?kr8_4) AllReadyH.nil
  case hor8_4 => simp only [List.getElem?_toArray, List.getElem?_cons_succ, List.getElem?_cons_zero]; rfl
  go_simp
  refine (KindOf_any _ rule hr).mono ?_
  rintro e w9 ⟨rfl, hw9⟩
  subst hw9
  rw [HKO.out, HK.out]
  go_wp2_with fail
  clear hHeld
  refine hK.out _ _ ?_ (fun hHeld => ?_)
  · exact ⟨h_c_3.cell 0 _ rfl, h_c_3.cell 1 _ rfl, h_c_3.cell 2 _ rfl, h_c_3.cell 3 _ rfl, h_b_3.cell 0 _ rfl, h_b_3.cell 1 _ rfl, trivial⟩
  clear hK K
  try simp only [Act.put, List.setIfInBounds_toArray, List.set_cons_zero, List.set_cons_succ]
  refine wpAnyH_take (i := 5) (oi := ?oir9_5) (v := ?vr9_5) ?hir9_5 (by kernel_rfl) (by kernel_rfl) (by kernel_rfl) ?hqr9_5 ?hyr9_5 (by assumption) ?restr9_5
  case hir9_5 => simp only [List.getElem?_toArray, List.getElem?_cons_succ, List.getElem?_cons_zero]; rfl
  case hqr9_5 => exact fun _ _ _ h => h
  case hyr9_5 => (refine Or.inl ⟨by rfl, ?_⟩; intro w hSw; (try dsimp only at hSw); go_simp; all_goals with_reducible rfl)
  try simp only [Act.put, List.setIfInBounds_toArray, List.set_cons_zero, List.set_cons_succ]
  refine wpAnyH_take (i := 6) (oi := ?oir9_6) (v := ?vr9_6) ?hir9_6 (by kernel_rfl) (by kernel_rfl) (by kernel_rfl) ?hqr9_6 ?hyr9_6 (by assumption) ?restr9_6
  case hir9_6 => simp only [List.getElem?_toArray, List.getElem?_cons_succ, List.getElem?_cons_zero]; rfl
  case hqr9_6 => exact fun _ _ _ h => h
  case hyr9_6 => (refine Or.inl ⟨by rfl, ?_⟩; intro w hSw; (try dsimp only at hSw); go_simp; all_goals with_reducible rfl)
  try simp only [Act.put, List.setIfInBounds_toArray, List.set_cons_zero, List.set_cons_succ]
  refine wpAnyH_take (i := 7) (oi := ?oir9_7) (v := ?vr9_7) ?hir9_7 (by kernel_rfl) (by kernel_rfl) (by kernel_rfl) ?hqr9_7 ?hyr9_7 (by assumption) ?restr9_7
  case hir9_7 => simp only [List.getElem?_toArray, List.getElem?_cons_succ, List.getElem?_cons_zero]; rfl
  case hqr9_7 => exact fun _ _ _ h => h
  case hyr9_7 => (refine Or.inl ⟨by rfl, ?_⟩; intro w hSw; (try dsimp only at hSw); go_simp; all_goals with_reducible rfl)
  try simp only [Act.put, List.setIfInBounds_toArray, List.set_cons_zero, List.set_cons_succ]
  refine wpAnyH_take (i := 8) (oi := ?oir9_8) (v := ?vr9_8) ?hir9_8 (by kernel_rfl) (by kernel_rfl) (by kernel_rfl) ?hqr9_8 ?hyr9_8 (by assumption) ?restr9_8
  case hir9_8 => simp only [List.getElem?_toArray, List.getElem?_cons_succ, List.getElem?_cons_zero]; rfl
  case hqr9_8 => exact fun _ _ _ h => h
  case hyr9_8 => (refine Or.inl ⟨by rfl, ?_⟩; intro w hSw; (try dsimp only at hSw); go_simp; all_goals with_reducible rfl)
  try simp only [Act.put, List.setIfInBounds_toArray, List.set_cons_zero, List.set_cons_succ]
  refine wpAnyH_take (i := 9) (oi := ?oir9_9) (v := ?vr9_9) ?hir9_9 (by kernel_rfl) (by kernel_rfl) (by kernel_rfl) ?hqr9_9 ?hyr9_9 (by assumption) ?restr9_9
  case hir9_9 => simp only [List.getElem?_toArray, List.getElem?_cons_succ, List.getElem?_cons_zero]; rfl
  case hqr9_9 => exact fun _ _ _ h => h
  case hyr9_9 => (refine Or.inl ⟨by rfl, ?_⟩; intro w hSw; (try dsimp only at hSw); go_simp; all_goals with_reducible rfl)
  try simp only [Act.put, List.setIfInBounds_toArray, List.set_cons_zero, List.set_cons_succ]
  refine wpAnyH_take (i := 10) (oi := ?oir9_10) (v := ?vr9_10) ?hir9_10 (by kernel_rfl) (by kernel_rfl) (by kernel_rfl) ?hqr9_10 ?hyr9_10 (by assumption) ?restr9_10
  case hir9_10 => simp only [List.getElem?_toArray, List.getElem?_cons_succ, List.getElem?_cons_zero]; rfl
  case hqr9_10 => exact fun _ _ _ h => h
  case hyr9_10 => (refine Or.inl ⟨by rfl, ?_⟩; intro w hSw; (try dsimp only at hSw); go_simp; all_goals with_reducible rfl)
  try simp only [Act.put, List.setIfInBounds_toArray, List.set_cons_zero, List.set_cons_succ]
  refine wpAnyH_ready (rs := [11]) (by kernel_rfl) (by simp) ?_
  refine AllReadyH.cons (o := ?or10_11) ?hor10_11 (fun K hK => ?kr10_11) AllReadyH.nil
  case hor10_11 => simp only [List.getElem?_toArray, List.getElem?_cons_succ, List.getElem?_cons_zero]; rfl
  go_simp
  have c := refFine_any w3 kd hk h_m_3 ((n_s : Nat) : Int)
  rw [HFQ.out] at c
  refine c.mono ?_
  rintro e w4 ⟨rfl, hb⟩
  clear c
  have B4 := B3.trans (hb.mono B3.size)
  have h_s_4 := h_s_3.below hb
  have h_m_4 := h_m_3.below hb
  have h_c_4 := h_c_3.later hb
  have h_b_4 := h_b_3.later hb
  clear hb B3 h_s_3 h_m_3 h_c_3 h_b_3
  go_wp2_with fail
  clear hHeld
  refine hK.out _ _ ?_ (fun hHeld => ?_)
  · exact ⟨h_c_4.cell 0 _ rfl, h_c_4.cell 1 _ rfl, h_c_4.cell 2 _ rfl, h_c_4.cell 3 _ rfl, h_b_4.cell 0 _ rfl, h_b_4.cell 1 _ rfl, trivial⟩
  clear hK K
  try simp only [Act.put, List.setIfInBounds_toArray, List.set_cons_zero, List.set_cons_succ]
  refine wpAnyH_take (i := 12) (oi := ?oir11_12) (v := ?vr11_12) ?hir11_12 (by kernel_rfl) (by kernel_rfl) (by kernel_rfl) ?hqr11_12 ?hyr11_12 (by assumption) ?restr11_12
  case hir11_12 => simp only [List.getElem?_toArray, List.getElem?_cons_succ, List.getElem?_cons_zero]; rfl
  case hqr11_12 => exact fun _ _ _ h => h
  case hyr11_12 => (refine Or.inl ⟨by rfl, ?_⟩; intro w hSw; (try dsimp only at hSw); go_simp; all_goals with_reducible rfl)
  try simp only [Act.put, List.setIfInBounds_toArray, List.set_cons_zero, List.set_cons_succ]
  refine wpAnyH_take (i := 13) (oi := ?oir11_13) (v := ?vr11_13) ?hir11_13 (by kernel_rfl) (by kernel_rfl) (by kernel_rfl) ?hqr11_13 ?hyr11_13 (by assumption) ?restr11_13
  case hir11_13 => simp only [List.getElem?_toArray, List.getElem?_cons_succ, List.getElem?_cons_zero]; rfl
  case hqr11_13 => exact fun _ _ _ h => h
  case hyr11_13 => (refine Or.inl ⟨by rfl, ?_⟩; intro w hSw; (try dsimp only at hSw); go_simp; all_goals with_reducible rfl)
  try simp only [Act.put, List.setIfInBounds_toArray, List.set_cons_zero, List.set_cons_succ]
  refine wpAnyH_done (by kernel_rfl) ?_ _
  clear hHeld
  cases fq
  case false =>
    have HF := Lib.hid (show r = false by rw [← HR.out]; exact fits_no (fun h => by have := h.2.1; rw [HN.out, HFQ.out] at this; cases this))
    go_wp2_with fail
    go_ret
    exact ⟨by rw [HF.out]; rfl, B4⟩
  by_cases h3 : kd = 3
  case pos =>
    have e3 : (((kd : Nat) : Int) == 3) = true := by simp; omega
    have HF := Lib.hid (show r = true by rw [← HR.out]; exact fits_marks HK.out.symm (by rw [HN.out]; exact HFQ.out) (.inl h3))
    go_upto_region 3 with fail
    have hb := (Below.refl w4.heap.size w4).drew
    have B5 := B4.trans (hb.mono B4.size)
    have h_s_5 := h_s_4.below hb
    have h_m_5 := h_m_4.below hb
    have h_c_5 := h_c_4.later hb
    have h_b_5 := h_b_4.later hb
    clear hb B4 h_s_4 h_m_4 h_c_4 h_b_4
    refine wp_region_held_drew (S := (fun w' => w'.cell? ⟨w.heap.size + 1, 0, none⟩ = some (.int .u8 ((kd : Nat) : Int)) ∧ w'.cell? ⟨w.heap.size + 1, 1, none⟩ = some (.slice a_m n_m c_m) ∧ True)) (by kernel_rfl) ?_ (fun hHeld => ?_)
    · exact ⟨h_b_5.cell 0 _ rfl, h_b_5.cell 1 _ rfl, trivial⟩
    generalize w4.drew = w5 at *
    refine wpAnyH_take (i := 0) (oi := ?oir12_0) (v := ?vr12_0) ?hir12_0 (by kernel_rfl) (by kernel_rfl) (by kernel_rfl) ?hqr12_0 ?hyr12_0 (by assumption) ?restr12_0
    case hir12_0 => simp only [List.getElem?_toArray, List.getElem?_cons_succ, List.getElem?_cons_zero]; rfl
    case hqr12_0 => exact fun _ _ _ h => h
    case hyr12_0 => (refine Or.inl ⟨by rfl, ?_⟩; intro w hSw; (try dsimp only at hSw); go_simp; all_goals with_reducible rfl)
    try simp only [Act.put, List.setIfInBounds_toArray, List.set_cons_zero, List.set_cons_succ]
    refine wpAnyH_take (i := 1) (oi := ?oir12_1) (v := ?vr12_1) ?hir12_1 (by kernel_rfl) (by kernel_rfl) (by kernel_rfl) ?hqr12_1 ?hyr12_1 (by assumption) ?restr12_1
    case hir12_1 => simp only [List.getElem?_toArray, List.getElem?_cons_succ, List.getElem?_cons_zero]; rfl
    case hqr12_1 => exact fun _ _ _ h => h
    case hyr12_1 => (refine Or.inl ⟨by rfl, ?_⟩; intro w hSw; (try dsimp only at hSw); go_simp; all_goals with_reducible rfl)
    try simp only [Act.put, List.setIfInBounds_toArray, List.set_cons_zero, List.set_cons_succ]
    refine wpAnyH_take (i := 2) (oi := ?oir12_2) (v := ?vr12_2) ?hir12_2 (by kernel_rfl) (by kernel_rfl) (by kernel_rfl) ?hqr12_2 ?hyr12_2 (by assumption) ?restr12_2
    case hir12_2 => simp only [List.getElem?_toArray, List.getElem?_cons_succ, List.getElem?_cons_zero]; rfl
    case hqr12_2 => exact fun _ _ _ h => h
    case hyr12_2 => (refine Or.inl ⟨by rfl, ?_⟩; intro w hSw; (try dsimp only at hSw); go_simp; all_goals with_reducible rfl)
    try simp only [Act.put, List.setIfInBounds_toArray, List.set_cons_zero, List.set_cons_succ]
    refine wpAnyH_take (i := 3) (oi := ?oir12_3) (v := ?vr12_3) ?hir12_3 (by kernel_rfl) (by kernel_rfl) (by kernel_rfl) ?hqr12_3 ?hyr12_3 (by assumption) ?restr12_3
    case hir12_3 => simp only [List.getElem?_toArray, List.getElem?_cons_succ, List.getElem?_cons_zero]; rfl
    case hqr12_3 => exact fun _ _ _ h => h
    case hyr12_3 => (refine Or.inl ⟨by rfl, ?_⟩; intro w hSw; (try dsimp only at hSw); go_simp; all_goals with_reducible rfl)
    try simp only [Act.put, List.setIfInBounds_toArray, List.set_cons_zero, List.set_cons_succ]
    refine wpAnyH_take (i := 4) (oi := ?oir12_4) (v := undef) ?hir12_4 (by kernel_rfl) (by kernel_rfl) (by kernel_rfl) ?hqr12_4 ?hyr12_4 (by assumption) ?restr12_4
    case hir12_4 => simp only [List.getElem?_toArray, List.getElem?_cons_succ, List.getElem?_cons_zero]; rfl
    case hqr12_4 => exact fun _ _ _ h => h
    case hyr12_4 => exact Or.inr ⟨by rfl, rfl⟩
    try simp only [Act.put, List.setIfInBounds_toArray, List.set_cons_zero, List.set_cons_succ]
    refine wpAnyH_take (i := 5) (oi := ?oir12_5) (v := undef) ?hir12_5 (by kernel_rfl) (by kernel_rfl) (by kernel_rfl) ?hqr12_5 ?hyr12_5 (by assumption) ?restr12_5
    case hir12_5 => simp only [List.getElem?_toArray, List.getElem?_cons_succ, List.getElem?_cons_zero]; rfl
    case hqr12_5 => exact fun _ _ _ h => h
    case hyr12_5 => exact Or.inr ⟨by rfl, rfl⟩
    try simp only [Act.put, List.setIfInBounds_toArray, List.set_cons_zero, List.set_cons_succ]
    refine wpAnyH_take (i := 6) (oi := ?oir12_6) (v := undef) ?hir12_6 (by kernel_rfl) (by kernel_rfl) (by kernel_rfl) ?hqr12_6 ?hyr12_6 (by assumption) ?restr12_6
    case hir12_6 => simp only [List.getElem?_toArray, List.getElem?_cons_succ, List.getElem?_cons_zero]; rfl
    case hqr12_6 => exact fun _ _ _ h => h
    case hyr12_6 => exact Or.inr ⟨by rfl, rfl⟩
    try simp only [Act.put, List.setIfInBounds_toArray, List.set_cons_zero, List.set_cons_succ]
    refine wpAnyH_take (i := 7) (oi := ?oir12_7) (v := undef) ?hir12_7 (by kernel_rfl) (by kernel_rfl) (by kernel_rfl) ?hqr12_7 ?hyr12_7 (by assumption) ?restr12_7
    case hir12_7 => simp only [List.getElem?_toArray, List.getElem?_cons_succ, List.getElem?_cons_zero]; rfl
    case hqr12_7 => exact fun _ _ _ h => h
    case hyr12_7 => exact Or.inr ⟨by rfl, rfl⟩
    try simp only [Act.put, List.setIfInBounds_toArray, List.set_cons_zero, List.set_cons_succ]
    refine wpAnyH_take (i := 8) (oi := ?oir12_8) (v := undef) ?hir12_8 (by kernel_rfl) (by kernel_rfl) (by kernel_rfl) ?hqr12_8 ?hyr12_8 (by assumption) ?restr12_8
    case hir12_8 => simp only [List.getElem?_toArray, List.getElem?_cons_succ, List.getElem?_cons_zero]; rfl
    case hqr12_8 => exact fun _ _ _ h => h
    case hyr12_8 => exact Or.inr ⟨by rfl, rfl⟩
    try simp only [Act.put, List.setIfInBounds_toArray, List.set_cons_zero, List.set_cons_succ]
    refine wpAnyH_take (i := 9) (oi := ?oir12_9) (v := undef) ?hir12_9 (by kernel_rfl) (by kernel_rfl) (by kernel_rfl) ?hqr12_9 ?hyr12_9 (by assumption) ?restr12_9
    case hir12_9 => simp only [List.getElem?_toArray, List.getElem?_cons_succ, List.getElem?_cons_zero]; rfl
    case hqr12_9 => exact fun _ _ _ h => h
    case hyr12_9 => exact Or.inr ⟨by rfl, rfl⟩
    try simp only [Act.put, List.setIfInBounds_toArray, List.set_cons_zero, List.set_cons_succ]
    refine wpAnyH_take (i := 10) (oi := ?oir12_10) (v := undef) ?hir12_10 (by kernel_rfl) (by kernel_rfl) (by kernel_rfl) ?hqr12_10 ?hyr12_10 (by assumption) ?restr12_10
    case hir12_10 => simp only [List.getElem?_toArray, List.getElem?_cons_succ, List.getElem?_cons_zero]; rfl
    case hqr12_10 => exact fun _ _ _ h => h
    case hyr12_10 => exact Or.inr ⟨by rfl, rfl⟩
    try simp only [Act.put, List.setIfInBounds_toArray, List.set_cons_zero, List.set_cons_succ]
    refine wpAnyH_take (i := 11) (oi := ?oir12_11) (v := undef) ?hir12_11 (by kernel_rfl) (by kernel_rfl) (by kernel_rfl) ?hqr12_11 ?hyr12_11 (by assumption) ?restr12_11
    case hir12_11 => simp only [List.getElem?_toArray, List.getElem?_cons_succ, List.getElem?_cons_zero]; rfl
    case hqr12_11 => exact fun _ _ _ h => h
    case hyr12_11 => exact Or.inr ⟨by rfl, rfl⟩
    try simp only [Act.put, List.setIfInBounds_toArray, List.set_cons_zero, List.set_cons_succ]
    refine wpAnyH_take (i := 12) (oi := ?oir12_12) (v := undef) ?hir12_12 (by kernel_rfl) (by kernel_rfl) (by kernel_rfl) ?hqr12_12 ?hyr12_12 (by assumption) ?restr12_12
    case hir12_12 => simp only [List.getElem?_toArray, List.getElem?_cons_succ, List.getElem?_cons_zero]; rfl
    case hqr12_12 => exact fun _ _ _ h => h
    case hyr12_12 => exact Or.inr ⟨by rfl, rfl⟩
    try simp only [Act.put, List.setIfInBounds_toArray, List.set_cons_zero, List.set_cons_succ]
    refine wpAnyH_take (i := 13) (oi := ?oir12_13) (v := undef) ?hir12_13 (by kernel_rfl) (by kernel_rfl) (by kernel_rfl) ?hqr12_13 ?hyr12_13 (by assumption) ?restr12_13
    case hir12_13 => simp only [List.getElem?_toArray, List.getElem?_cons_succ, List.getElem?_cons_zero]; rfl
    case hqr12_13 => exact fun _ _ _ h => h
    case hyr12_13 => exact Or.inr ⟨by rfl, rfl⟩
    try simp only [Act.put, List.setIfInBounds_toArray, List.set_cons_zero, List.set_cons_succ]
    refine wpAnyH_take (i := 14) (oi := ?oir12_14) (v := ?vr12_14) ?hir12_14 (by kernel_rfl) (by kernel_rfl) (by kernel_rfl) ?hqr12_14 ?hyr12_14 (by assumption) ?restr12_14
    case hir12_14 => simp only [List.getElem?_toArray, List.getElem?_cons_succ, List.getElem?_cons_zero]; rfl
    case hqr12_14 => exact fun _ _ _ h => h
    case hyr12_14 => (refine Or.inl ⟨by rfl, ?_⟩; intro w hSw; (try dsimp only at hSw); go_simp; all_goals with_reducible rfl)
    try simp only [Act.put, List.setIfInBounds_toArray, List.set_cons_zero, List.set_cons_succ]
    refine wpAnyH_take (i := 15) (oi := ?oir12_15) (v := ?vr12_15) ?hir12_15 (by kernel_rfl) (by kernel_rfl) (by kernel_rfl) ?hqr12_15 ?hyr12_15 (by assumption) ?restr12_15
    case hir12_15 => simp only [List.getElem?_toArray, List.getElem?_cons_succ, List.getElem?_cons_zero]; rfl
    case hqr12_15 => exact fun _ _ _ h => h
    case hyr12_15 => (refine Or.inl ⟨by rfl, ?_⟩; intro w hSw; (try dsimp only at hSw); go_simp; all_goals with_reducible rfl)
    try simp only [Act.put, List.setIfInBounds_toArray, List.set_cons_zero, List.set_cons_succ]
    refine wpAnyH_done (by kernel_rfl) ?_ _
    clear hHeld
    go_wp2_with fail
    go_ret
    exact ⟨by rw [HF.out]; rfl, B5⟩
  have e3 : (((kd : Nat) : Int) == 3) = false := by simp; omega
  have HF := Lib.hid (show r = decide (((n_m : Nat) : Int) ≤ mo) by rw [← HR.out]; unfold fitsB; rw [decide_eq_true HK.out.symm, HN.out, HFQ.out, decide_eq_false h3, HM.out, HMO.out]; rfl)
  go_upto_region 3 with fail
  have hb := (Below.refl w4.heap.size w4).drew
  have B5 := B4.trans (hb.mono B4.size)
  have h_s_5 := h_s_4.below hb
  have h_m_5 := h_m_4.below hb
  have h_c_5 := h_c_4.later hb
  have h_b_5 := h_b_4.later hb
  clear hb B4 h_s_4 h_m_4 h_c_4 h_b_4
  refine wp_region_held_drew (S := (fun w' => w'.cell? ⟨w.heap.size, 0, none⟩ = some (.string nm) ∧ w'.cell? ⟨w.heap.size, 1, none⟩ = some (.slice a_s n_s c_s) ∧ w'.cell? ⟨w.heap.size, 2, none⟩ = some (.int .i64 seats) ∧ w'.cell? ⟨w.heap.size, 3, none⟩ = some (.int .u8 ((rule : Nat) : Int)) ∧ w'.cell? ⟨w.heap.size + 1, 0, none⟩ = some (.int .u8 ((kd : Nat) : Int)) ∧ w'.cell? ⟨w.heap.size + 1, 1, none⟩ = some (.slice a_m n_m c_m) ∧ True)) (by kernel_rfl) ?_ (fun hHeld => ?_)
  · exact ⟨h_c_5.cell 0 _ rfl, h_c_5.cell 1 _ rfl, h_c_5.cell 2 _ rfl, h_c_5.cell 3 _ rfl, h_b_5.cell 0 _ rfl, h_b_5.cell 1 _ rfl, trivial⟩
  generalize w4.drew = w5 at *
  refine wpAnyH_take (i := 0) (oi := ?oir13_0) (v := ?vr13_0) ?hir13_0 (by kernel_rfl) (by kernel_rfl) (by kernel_rfl) ?hqr13_0 ?hyr13_0 (by assumption) ?restr13_0
  case hir13_0 => simp only [List.getElem?_toArray, List.getElem?_cons_succ, List.getElem?_cons_zero]; rfl
  case hqr13_0 => exact fun _ _ _ h => h
  case hyr13_0 => (refine Or.inl ⟨by rfl, ?_⟩; intro w hSw; (try dsimp only at hSw); go_simp; all_goals with_reducible rfl)
  try simp only [Act.put, List.setIfInBounds_toArray, List.set_cons_zero, List.set_cons_succ]
  refine wpAnyH_take (i := 1) (oi := ?oir13_1) (v := ?vr13_1) ?hir13_1 (by kernel_rfl) (by kernel_rfl) (by kernel_rfl) ?hqr13_1 ?hyr13_1 (by assumption) ?restr13_1
  case hir13_1 => simp only [List.getElem?_toArray, List.getElem?_cons_succ, List.getElem?_cons_zero]; rfl
  case hqr13_1 => exact fun _ _ _ h => h
  case hyr13_1 => (refine Or.inl ⟨by rfl, ?_⟩; intro w hSw; (try dsimp only at hSw); go_simp; all_goals with_reducible rfl)
  try simp only [Act.put, List.setIfInBounds_toArray, List.set_cons_zero, List.set_cons_succ]
  refine wpAnyH_take (i := 2) (oi := ?oir13_2) (v := ?vr13_2) ?hir13_2 (by kernel_rfl) (by kernel_rfl) (by kernel_rfl) ?hqr13_2 ?hyr13_2 (by assumption) ?restr13_2
  case hir13_2 => simp only [List.getElem?_toArray, List.getElem?_cons_succ, List.getElem?_cons_zero]; rfl
  case hqr13_2 => exact fun _ _ _ h => h
  case hyr13_2 => (refine Or.inl ⟨by rfl, ?_⟩; intro w hSw; (try dsimp only at hSw); go_simp; all_goals with_reducible rfl)
  try simp only [Act.put, List.setIfInBounds_toArray, List.set_cons_zero, List.set_cons_succ]
  refine wpAnyH_take (i := 3) (oi := ?oir13_3) (v := ?vr13_3) ?hir13_3 (by kernel_rfl) (by kernel_rfl) (by kernel_rfl) ?hqr13_3 ?hyr13_3 (by assumption) ?restr13_3
  case hir13_3 => simp only [List.getElem?_toArray, List.getElem?_cons_succ, List.getElem?_cons_zero]; rfl
  case hqr13_3 => exact fun _ _ _ h => h
  case hyr13_3 => (refine Or.inl ⟨by rfl, ?_⟩; intro w hSw; (try dsimp only at hSw); go_simp; all_goals with_reducible rfl)
  try simp only [Act.put, List.setIfInBounds_toArray, List.set_cons_zero, List.set_cons_succ]
  refine wpAnyH_take (i := 4) (oi := ?oir13_4) (v := ?vr13_4) ?hir13_4 (by kernel_rfl) (by kernel_rfl) (by kernel_rfl) ?hqr13_4 ?hyr13_4 (by assumption) ?restr13_4
  case hir13_4 => simp only [List.getElem?_toArray, List.getElem?_cons_succ, List.getElem?_cons_zero]; rfl
  case hqr13_4 => exact fun _ _ _ h => h
  case hyr13_4 => (refine Or.inl ⟨by rfl, ?_⟩; intro w hSw; (try dsimp only at hSw); go_simp; all_goals with_reducible rfl)
  try simp only [Act.put, List.setIfInBounds_toArray, List.set_cons_zero, List.set_cons_succ]
  refine wpAnyH_take (i := 5) (oi := ?oir13_5) (v := ?vr13_5) ?hir13_5 (by kernel_rfl) (by kernel_rfl) (by kernel_rfl) ?hqr13_5 ?hyr13_5 (by assumption) ?restr13_5
  case hir13_5 => simp only [List.getElem?_toArray, List.getElem?_cons_succ, List.getElem?_cons_zero]; rfl
  case hqr13_5 => exact fun _ _ _ h => h
  case hyr13_5 => (refine Or.inl ⟨by rfl, ?_⟩; intro w hSw; (try dsimp only at hSw); go_simp; all_goals with_reducible rfl)
  try simp only [Act.put, List.setIfInBounds_toArray, List.set_cons_zero, List.set_cons_succ]
  refine wpAnyH_take (i := 6) (oi := ?oir13_6) (v := ?vr13_6) ?hir13_6 (by kernel_rfl) (by kernel_rfl) (by kernel_rfl) ?hqr13_6 ?hyr13_6 (by assumption) ?restr13_6
  case hir13_6 => simp only [List.getElem?_toArray, List.getElem?_cons_succ, List.getElem?_cons_zero]; rfl
  case hqr13_6 => exact fun _ _ _ h => h
  case hyr13_6 => (refine Or.inl ⟨by rfl, ?_⟩; intro w hSw; (try dsimp only at hSw); go_simp; all_goals with_reducible rfl)
  try simp only [Act.put, List.setIfInBounds_toArray, List.set_cons_zero, List.set_cons_succ]
  refine wpAnyH_take (i := 7) (oi := ?oir13_7) (v := ?vr13_7) ?hir13_7 (by kernel_rfl) (by kernel_rfl) (by kernel_rfl) ?hqr13_7 ?hyr13_7 (by assumption) ?restr13_7
  case hir13_7 => simp only [List.getElem?_toArray, List.getElem?_cons_succ, List.getElem?_cons_zero]; rfl
  case hqr13_7 => exact fun _ _ _ h => h
  case hyr13_7 => (refine Or.inl ⟨by rfl, ?_⟩; intro w hSw; (try dsimp only at hSw); go_simp; all_goals with_reducible rfl)
  try simp only [Act.put, List.setIfInBounds_toArray, List.set_cons_zero, List.set_cons_succ]
  refine wpAnyH_take (i := 8) (oi := ?oir13_8) (v := ?vr13_8) ?hir13_8 (by kernel_rfl) (by kernel_rfl) (by kernel_rfl) ?hqr13_8 ?hyr13_8 (by assumption) ?restr13_8
  case hir13_8 => simp only [List.getElem?_toArray, List.getElem?_cons_succ, List.getElem?_cons_zero]; rfl
  case hqr13_8 => exact fun _ _ _ h => h
  case hyr13_8 => (refine Or.inl ⟨by rfl, ?_⟩; intro w hSw; (try dsimp only at hSw); go_simp; all_goals with_reducible rfl)
  try simp only [Act.put, List.setIfInBounds_toArray, List.set_cons_zero, List.set_cons_succ]
  refine wpAnyH_take (i := 9) (oi := ?oir13_9) (v := ?vr13_9) ?hir13_9 (by kernel_rfl) (by kernel_rfl) (by kernel_rfl) ?hqr13_9 ?hyr13_9 (by assumption) ?restr13_9
  case hir13_9 => simp only [List.getElem?_toArray, List.getElem?_cons_succ, List.getElem?_cons_zero]; rfl
  case hqr13_9 => exact fun _ _ _ h => h
  case hyr13_9 => (refine Or.inl ⟨by rfl, ?_⟩; intro w hSw; (try dsimp only at hSw); go_simp; all_goals with_reducible rfl)
  try simp only [Act.put, List.setIfInBounds_toArray, List.set_cons_zero, List.set_cons_succ]
  refine wpAnyH_take (i := 10) (oi := ?oir13_10) (v := ?vr13_10) ?hir13_10 (by kernel_rfl) (by kernel_rfl) (by kernel_rfl) ?hqr13_10 ?hyr13_10 (by assumption) ?restr13_10
  case hir13_10 => simp only [List.getElem?_toArray, List.getElem?_cons_succ, List.getElem?_cons_zero]; rfl
  case hqr13_10 => exact fun _ _ _ h => h
  case hyr13_10 => (refine Or.inl ⟨by rfl, ?_⟩; intro w hSw; (try dsimp only at hSw); go_simp; all_goals with_reducible rfl)
  try simp only [Act.put, List.setIfInBounds_toArray, List.set_cons_zero, List.set_cons_succ]
  refine wpAnyH_take (i := 11) (oi := ?oir13_11) (v := ?vr13_11) ?hir13_11 (by kernel_rfl) (by kernel_rfl) (by kernel_rfl) ?hqr13_11 ?hyr13_11 (by assumption) ?restr13_11
  case hir13_11 => simp only [List.getElem?_toArray, List.getElem?_cons_succ, List.getElem?_cons_zero]; rfl
  case hqr13_11 => exact fun _ _ _ h => h
  case hyr13_11 => (refine Or.inl ⟨by rfl, ?_⟩; intro w hSw; (try dsimp only at hSw); go_simp; all_goals with_reducible rfl)
  try simp only [Act.put, List.setIfInBounds_toArray, List.set_cons_zero, List.set_cons_succ]
  refine wpAnyH_ready (rs := [12]) (by kernel_rfl) (by simp) ?_
  refine AllReadyH.cons (o := ?or14_12) ?hor14_12 (fun K hK => ?kr14_12) AllReadyH.nil
  case hor14_12 => simp only [List.getElem?_toArray, List.getElem?_cons_succ, List.getElem?_cons_zero]; rfl
  go_simp
  refine (Marks_any _ rule hr ((n_s : Nat) : Int) (by omega) (by omega)).mono ?_
  rintro e w9 ⟨rfl, hw9⟩
  subst hw9
  rw [HMO.out]
  go_wp2_with fail
  clear hHeld
  refine hK.out _ _ ?_ (fun hHeld => ?_)
  · exact ⟨h_c_5.cell 0 _ rfl, h_c_5.cell 1 _ rfl, h_c_5.cell 2 _ rfl, h_c_5.cell 3 _ rfl, h_b_5.cell 0 _ rfl, h_b_5.cell 1 _ rfl, trivial⟩
  clear hK K
  try simp only [Act.put, List.setIfInBounds_toArray, List.set_cons_zero, List.set_cons_succ]
  refine wpAnyH_take (i := 13) (oi := ?oir15_13) (v := ?vr15_13) ?hir15_13 (by kernel_rfl) (by kernel_rfl) (by kernel_rfl) ?hqr15_13 ?hyr15_13 (by assumption) ?restr15_13
  case hir15_13 => simp only [List.getElem?_toArray, List.getElem?_cons_succ, List.getElem?_cons_zero]; rfl
  case hqr15_13 => exact fun _ _ _ h => h
  case hyr15_13 => (refine Or.inl ⟨by rfl, ?_⟩; intro w hSw; (try dsimp only at hSw); go_simp; all_goals with_reducible rfl)
  try simp only [Act.put, List.setIfInBounds_toArray, List.set_cons_zero, List.set_cons_succ]
  refine wpAnyH_take (i := 14) (oi := ?oir15_14) (v := ?vr15_14) ?hir15_14 (by kernel_rfl) (by kernel_rfl) (by kernel_rfl) ?hqr15_14 ?hyr15_14 (by assumption) ?restr15_14
  case hir15_14 => simp only [List.getElem?_toArray, List.getElem?_cons_succ, List.getElem?_cons_zero]; rfl
  case hqr15_14 => exact fun _ _ _ h => h
  case hyr15_14 => (refine Or.inl ⟨by rfl, ?_⟩; intro w hSw; (try dsimp only at hSw); go_simp; all_goals with_reducible rfl)
  try simp only [Act.put, List.setIfInBounds_toArray, List.set_cons_zero, List.set_cons_succ]
  refine wpAnyH_take (i := 15) (oi := ?oir15_15) (v := ?vr15_15) ?hir15_15 (by kernel_rfl) (by kernel_rfl) (by kernel_rfl) ?hqr15_15 ?hyr15_15 (by assumption) ?restr15_15
  case hir15_15 => simp only [List.getElem?_toArray, List.getElem?_cons_succ, List.getElem?_cons_zero]; rfl
  case hqr15_15 => exact fun _ _ _ h => h
  case hyr15_15 => (refine Or.inl ⟨by rfl, ?_⟩; intro w hSw; (try dsimp only at hSw); go_simp; all_goals with_reducible rfl)
  try simp only [Act.put, List.setIfInBounds_toArray, List.set_cons_zero, List.set_cons_succ]
  refine wpAnyH_done (by kernel_rfl) ?_ _
  clear hHeld
  go_wp2_with fail
  go_ret
  exact ⟨by rw [HF.out]; rfl, B5⟩

end Go.Proofs.Ytlfempfhohejiaa
