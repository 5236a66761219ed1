/- Check of a roll and the document's. No condition. Printed by gen_rolb.py. -/
import Derived.Test.YtnjkfjecnicccaaRolPlain
import Derived.Laws.Cover1
import Derived.Deep.RegionHeld3
import Derived.Deep.CutRange
namespace Go.Proofs.Ytnjkfjecnicccaa
open Go.RowKit Go.Suf
set_option linter.unusedVariables false
set_option linter.unusedSimpArgs false

theorem wrap_in {z : Int} (h1 : -9223372036854775808 ≤ z) (h2 : z ≤ 9223372036854775807) : IntKind.i64.wrap z = z := by
  rw [IntKind.wrap_i64]
  omega
theorem atVot : AT Try.prog 32 3 := ⟨⟨_, Try.underlying32, rfl⟩, by kernel_rfl⟩
theorem below_al (w : World) (o : Obj) : Below w.heap.size w (w.alloc o) := (Below.refl _ _).alloc (Nat.le_refl _) _
theorem vot_one (v : VQ) : ∀ u ∈ (#[.string v.nm, .int .i64 v.pc, .int .u8 ((v.st : Nat) : Int)] : Array Value).toList, u.oneCell' = true := by
  intro u hu
  simp at hu
  rcases hu with rfl | rfl | rfl <;> rfl
theorem vot_cells (w : World) (v : VQ) : (w.alloc (.cells #[.string v.nm, .int .i64 v.pc, .int .u8 ((v.st : Nat) : Int)] 32)).cell? ⟨w.heap.size, 0, none⟩ = some (.string v.nm) ∧
    (w.alloc (.cells #[.string v.nm, .int .i64 v.pc, .int .u8 ((v.st : Nat) : Int)] 32)).cell? ⟨w.heap.size, 1, none⟩ = some (.int .i64 v.pc) ∧ (w.alloc (.cells #[.string v.nm, .int .i64 v.pc, .int .u8 ((v.st : Nat) : Int)] 32)).cell? ⟨w.heap.size, 2, none⟩ = some (.int .u8 ((v.st : Nat) : Int)) := by
  simp only [World.cell?, heap_alloc_new]
  exact ⟨rfl, rfl, rfl⟩

set_option maxRecDepth 100000 in
theorem refMay_any (w : World) (v : VQ) : Calls Try.prog 45 #[voterV v] w fun e w' => e = .returned (.bool (mayV v)) ∧ Below w.heap.size w w' := by
  have hB := below_al w (.cells #[.string v.nm, .int .i64 v.pc, .int .u8 ((v.st : Nat) : Int)] 32)
  obtain ⟨k0, k1, k2⟩ := vot_cells w v
  obtain ⟨o, ho⟩ : ∃ o, oddS v.nm = o := ⟨_, rfl⟩
  have hm : mayV v = (!o && decide (0 ≤ v.pc) && decide (v.pc < 8) && decide (1 ≤ v.st) && decide (v.st ≤ 4)) := by rw [mayV, ho]
  rw [hm]
  have HO := Lib.hid ho
  clear ho hm
  unfold voterV
  go_enter Try.func45, Try.ntmps45
  go_wp2_with fail
  have c := Name_any (w.alloc (.cells #[.string v.nm, .int .i64 v.pc, .int .u8 ((v.st : Nat) : Int)] 32)) v.nm
  rw [HO.out] at c
  refine c.mono ?_
  rintro e w1 ⟨rfl, rfl⟩
  clear c
  have HB := Lib.hid hB
  clear hB
  cases o
  case true =>
    go_wp2_with fail
    go_ret
    exact ⟨rfl, HB.out⟩
  by_cases h1 : 0 ≤ v.pc
  case neg =>
    go_wp2_with fail
    go_ret
    exact ⟨by simp; omega, HB.out⟩
  by_cases h2 : v.pc < 8
  case neg =>
    go_wp2_with fail
    go_ret
    exact ⟨by simp; omega, HB.out⟩
  by_cases h3 : 1 ≤ v.st
  case neg =>
    go_wp2_with fail
    go_ret
    exact ⟨by simp [h3], HB.out⟩
  by_cases h4 : v.st ≤ 4
  all_goals (go_wp2_with fail; go_ret; exact ⟨by first | (simp [h1, h2, h3, h4]; done) | (simp [h1, h2, h3, h4]; omega), HB.out⟩)

set_option maxRecDepth 100000 in
theorem may_any (w : World) (v : VQ) : Calls Try.prog 42 #[voterV v] w fun e w' => e = .returned (.bool (mayV v)) ∧ Below w.heap.size w w' := by
  have hB := below_al w (.cells #[.string v.nm, .int .i64 v.pc, .int .u8 ((v.st : Nat) : Int)] 32)
  obtain ⟨k0, k1, k2⟩ := vot_cells w v
  obtain ⟨o, ho⟩ : ∃ o, oddS v.nm = o := ⟨_, rfl⟩
  have hm : mayV v = (!o && decide (0 ≤ v.pc) && decide (v.pc < 8) && decide (1 ≤ v.st) && decide (v.st ≤ 4)) := by rw [mayV, ho]
  rw [hm]
  have HO := Lib.hid ho
  clear ho hm
  unfold voterV
  go_enter Try.func42, Try.ntmps42
  go_wp2_with fail
  have c := named_any (w.alloc (.cells #[.string v.nm, .int .i64 v.pc, .int .u8 ((v.st : Nat) : Int)] 32)) v.nm
  rw [HO.out] at c
  refine c.mono ?_
  rintro e w1 ⟨rfl, hb⟩
  clear c
  have k0 := cell_below hb k0
  have k1 := cell_below hb k1
  have k2 := cell_below hb k2
  have HB := Lib.hid (hB.trans (hb.mono hB.size))
  clear hB
  cases o
  case true =>
    go_wp2_with fail
    go_ret
    exact ⟨rfl, HB.out⟩
  by_cases h1 : 0 ≤ v.pc
  case neg =>
    go_wp2_with fail
    go_ret
    exact ⟨by simp; omega, HB.out⟩
  by_cases h2 : v.pc < 8
  case neg =>
    go_wp2_with fail
    go_ret
    exact ⟨by simp; omega, HB.out⟩
  by_cases h3 : 1 ≤ v.st
  case neg =>
    go_wp2_with fail
    go_ret
    exact ⟨by simp [h3], HB.out⟩
  by_cases h4 : v.st ≤ 4
  all_goals (go_wp2_with fail; go_ret; exact ⟨by first | (simp [h1, h2, h3, h4]; done) | (simp [h1, h2, h3, h4]; omega), HB.out⟩)

set_option maxRecDepth 100000 in
set_option maxHeartbeats 4000000 in
theorem refCheck_any (w : World) {a : Option Addr} {n cap : Nat} {vs : List VQ} (h : RdV w a n cap vs) :
    Calls Try.prog 27 #[.slice a n cap] w fun e w' => e = .returned (.int .i64 (chkV vs)) ∧ Below w.heap.size w w' := by
  have hn := h.lt
  have HL := Lib.hid h.len
  obtain ⟨r, hr⟩ : ∃ r, r = chkV vs := ⟨_, rfl⟩
  rw [← hr]
  have HR := Lib.hid hr
  clear hr
  go_enter Try.func27, Try.ntmps27
  by_cases hbig : 64 < n
  case pos =>
    go_wp2_with fail
    go_ret
    exact ⟨by rw [HR.out, chk_many (by rw [HL.out]; exact hbig)]; rfl, Below.refl _ _⟩
  go_wp2_with fail
  go_loopw [3] (fun j wr => ∃ i, i ≤ n ∧ j = .int .i64 (i : Nat) ∧ Below w.heap.size w wr ∧ Hid (∀ k, k < i → okAt vs k = true)) (fun j _ => n - (intOf j).toNat)
  case atStart => exact ⟨0, Nat.zero_le _, rfl, Below.refl _ _, Lib.hid fun k hk => absurd hk (by omega)⟩
  case round =>
    rename_i wr _
    obtain ⟨i, hi, rfl, hb, hS⟩ := hrel
    have hrd := h.below hb
    by_cases hlt : i < n
    case neg =>
      obtain rfl : i = n := by omega
      have HE := Lib.hid (chk_all (vs := vs) (by rw [HL.out]; exact hbig) (fun k hk => hS.out k (by rw [← HL.out]; exact hk)))
      clear hrd
      go_wp2_with fail
      go_ret
      exact ⟨by rw [HR.out, HE.out]; rfl, hb⟩
    case pos =>
      obtain ⟨b, off, rfl, hc⟩ := hrd.addr (by omega)
      obtain ⟨k0, k1, k2⟩ := hc i hlt
      have hp : ∀ j, j < n → wr.cell? ⟨b, off + j * 3, none⟩ = some (.string (vth vs j).nm) := fun j hj => (hc j hj).1
      have HP := Lib.hid hp
      have hlw : ((i : Nat) : Int) < (n : Int) := by omega
      have hld : decide (((i : Nat) : Int) < (n : Int)) = true := decide_eq_true hlw
      clear hc hrd hp
      obtain ⟨v, hv⟩ : ∃ v, vth vs i = v := ⟨_, rfl⟩
      rw [hv] at k0 k1 k2
      have HV := Lib.hid hv
      clear hv
      obtain ⟨m, hm⟩ : ∃ m, mayV v = m := ⟨_, rfl⟩
      have HM := Lib.hid hm
      clear hm
      go_upto_region 6 with fail
      cases m
      case false =>
        have HE : Hid (okAt vs i = false) := Lib.hid (by rw [okAt, HV.out, HM.out]; rfl)
        have D0 : Below wr.heap.size wr wr.drew := (Below.refl _ _).drew
        refine wp_region_held_drew (S := (fun w' => w'.cell? ⟨b, off + i * 3, none⟩ = some (.string v.nm) ∧ w'.cell? ⟨b, off + i * 3 + 1, none⟩ = some (.int .i64 v.pc) ∧ w'.cell? ⟨b, off + i * 3 + 2, none⟩ = some (.int .u8 ((v.st : Nat) : Int)) ∧ True)) (by kernel_rfl) ?_ (fun hHeld => ?_)
        · exact ⟨cell_below D0 k0, cell_below D0 k1, cell_below D0 k2, trivial⟩
        have hb := hb.trans (D0.mono hb.size)
        have k0 := cell_below D0 k0
        have k1 := cell_below D0 k1
        have k2 := cell_below D0 k2
        clear D0
        generalize wr.drew = wd at *
        refine wpAnyH_take (i := 0) (oi := ?oir1_0) (v := ?vr1_0) ?hir1_0 (by kernel_rfl) (by kernel_rfl) (by kernel_rfl) ?hqr1_0 ?hyr1_0 (by assumption) ?restr1_0
        case hir1_0 => simp only [List.getElem?_toArray, List.getElem?_cons_succ, List.getElem?_cons_zero]; rfl
        case hqr1_0 => exact fun _ _ _ h => h
        case hyr1_0 => (refine Or.inl ⟨by rfl, ?_⟩; intro w hSw; (try dsimp only at hSw); go_simp; all_goals with_reducible rfl)
        try simp only [Act.put, List.setIfInBounds_toArray, List.set_cons_zero, List.set_cons_succ]
        refine wpAnyH_take (i := 1) (oi := ?oir1_1) (v := ?vr1_1) ?hir1_1 (by kernel_rfl) (by kernel_rfl) (by kernel_rfl) ?hqr1_1 ?hyr1_1 (by assumption) ?restr1_1
        case hir1_1 => simp only [List.getElem?_toArray, List.getElem?_cons_succ, List.getElem?_cons_zero]; rfl
        case hqr1_1 => exact fun _ _ _ h => h
        case hyr1_1 => (refine Or.inl ⟨by rfl, ?_⟩; intro w hSw; (try dsimp only at hSw); go_simp; all_goals with_reducible rfl)
        try simp only [Act.put, List.setIfInBounds_toArray, List.set_cons_zero, List.set_cons_succ]
        refine wpAnyH_take (i := 2) (oi := ?oir1_2) (v := ?vr1_2) ?hir1_2 (by kernel_rfl) (by kernel_rfl) (by kernel_rfl) ?hqr1_2 ?hyr1_2 (by assumption) ?restr1_2
        case hir1_2 => simp only [List.getElem?_toArray, List.getElem?_cons_succ, List.getElem?_cons_zero]; rfl
        case hqr1_2 => exact fun _ _ _ h => h
        case hyr1_2 => (refine Or.inl ⟨by rfl, ?_⟩; intro w hSw; (try dsimp only at hSw); go_simp; all_goals with_reducible rfl)
        try simp only [Act.put, List.setIfInBounds_toArray, List.set_cons_zero, List.set_cons_succ]
        refine wpAnyH_take (i := 3) (oi := ?oir1_3) (v := ?vr1_3) ?hir1_3 (by kernel_rfl) (by kernel_rfl) (by kernel_rfl) ?hqr1_3 ?hyr1_3 (by assumption) ?restr1_3
        case hir1_3 => simp only [List.getElem?_toArray, List.getElem?_cons_succ, List.getElem?_cons_zero]; rfl
        case hqr1_3 => exact fun _ _ _ h => h
        case hyr1_3 => (refine Or.inl ⟨by rfl, ?_⟩; intro w hSw; (try dsimp only at hSw); go_simp; all_goals with_reducible rfl)
        try simp only [Act.put, List.setIfInBounds_toArray, List.set_cons_zero, List.set_cons_succ]
        refine wpAnyH_ready (rs := [4]) (by kernel_rfl) (by simp) ?_
        refine AllReadyH.cons (o := ?oq1_4) ?hoq1_4 (fun K hK => ?kq1_4) AllReadyH.nil
        case hoq1_4 => simp only [List.getElem?_toArray, List.getElem?_cons_succ, List.getElem?_cons_zero]; rfl
        go_simp
        have c := refMay_any wd v
        rw [HM.out] at c
        refine c.mono ?_
        rintro e w1 ⟨rfl, hb1⟩
        clear c
        have hb := hb.trans (hb1.mono hb.size)
        go_wp2_with fail
        refine hK.out _ _ ?_ (fun hHeld => ?_)
        · exact ⟨cell_below hb1 k0, cell_below hb1 k1, cell_below hb1 k2, trivial⟩
        clear hK K
        try simp only [Act.put, List.setIfInBounds_toArray, List.set_cons_zero, List.set_cons_succ]
        refine wpAnyH_take (i := 5) (oi := ?oir2_5) (v := ?vr2_5) ?hir2_5 (by kernel_rfl) (by kernel_rfl) (by kernel_rfl) ?hqr2_5 ?hyr2_5 (by assumption) ?restr2_5
        case hir2_5 => simp only [List.getElem?_toArray, List.getElem?_cons_succ, List.getElem?_cons_zero]; rfl
        case hqr2_5 => exact fun _ _ _ h => h
        case hyr2_5 => (refine Or.inl ⟨by rfl, ?_⟩; intro w hSw; (try dsimp only at hSw); go_simp; all_goals with_reducible rfl)
        try simp only [Act.put, List.setIfInBounds_toArray, List.set_cons_zero, List.set_cons_succ]
        refine wpAnyH_take (i := 6) (oi := ?oir2_6) (v := ?vr2_6) ?hir2_6 (by kernel_rfl) (by kernel_rfl) (by kernel_rfl) ?hqr2_6 ?hyr2_6 (by assumption) ?restr2_6
        case hir2_6 => simp only [List.getElem?_toArray, List.getElem?_cons_succ, List.getElem?_cons_zero]; rfl
        case hqr2_6 => exact fun _ _ _ h => h
        case hyr2_6 => (refine Or.inl ⟨by rfl, ?_⟩; intro w hSw; (try dsimp only at hSw); go_simp; all_goals with_reducible rfl)
        try simp only [Act.put, List.setIfInBounds_toArray, List.set_cons_zero, List.set_cons_succ]
        refine wpAnyH_take (i := 7) (oi := ?oir2_7) (v := undef) ?hir2_7 (by kernel_rfl) (by kernel_rfl) (by kernel_rfl) ?hqr2_7 ?hyr2_7 (by assumption) ?restr2_7
        case hir2_7 => simp only [List.getElem?_toArray, List.getElem?_cons_succ, List.getElem?_cons_zero]; rfl
        case hqr2_7 => exact fun _ _ _ h => h
        case hyr2_7 => exact Or.inr ⟨by rfl, rfl⟩
        try simp only [Act.put, List.setIfInBounds_toArray, List.set_cons_zero, List.set_cons_succ]
        refine wpAnyH_take (i := 8) (oi := ?oir2_8) (v := undef) ?hir2_8 (by kernel_rfl) (by kernel_rfl) (by kernel_rfl) ?hqr2_8 ?hyr2_8 (by assumption) ?restr2_8
        case hir2_8 => simp only [List.getElem?_toArray, List.getElem?_cons_succ, List.getElem?_cons_zero]; rfl
        case hqr2_8 => exact fun _ _ _ h => h
        case hyr2_8 => exact Or.inr ⟨by rfl, rfl⟩
        try simp only [Act.put, List.setIfInBounds_toArray, List.set_cons_zero, List.set_cons_succ]
        refine wpAnyH_take (i := 9) (oi := ?oir2_9) (v := undef) ?hir2_9 (by kernel_rfl) (by kernel_rfl) (by kernel_rfl) ?hqr2_9 ?hyr2_9 (by assumption) ?restr2_9
        case hir2_9 => simp only [List.getElem?_toArray, List.getElem?_cons_succ, List.getElem?_cons_zero]; rfl
        case hqr2_9 => exact fun _ _ _ h => h
        case hyr2_9 => exact Or.inr ⟨by rfl, rfl⟩
        try simp only [Act.put, List.setIfInBounds_toArray, List.set_cons_zero, List.set_cons_succ]
        refine wpAnyH_take (i := 10) (oi := ?oir2_10) (v := undef) ?hir2_10 (by kernel_rfl) (by kernel_rfl) (by kernel_rfl) ?hqr2_10 ?hyr2_10 (by assumption) ?restr2_10
        case hir2_10 => simp only [List.getElem?_toArray, List.getElem?_cons_succ, List.getElem?_cons_zero]; rfl
        case hqr2_10 => exact fun _ _ _ h => h
        case hyr2_10 => exact Or.inr ⟨by rfl, rfl⟩
        try simp only [Act.put, List.setIfInBounds_toArray, List.set_cons_zero, List.set_cons_succ]
        refine wpAnyH_take (i := 11) (oi := ?oir2_11) (v := undef) ?hir2_11 (by kernel_rfl) (by kernel_rfl) (by kernel_rfl) ?hqr2_11 ?hyr2_11 (by assumption) ?restr2_11
        case hir2_11 => simp only [List.getElem?_toArray, List.getElem?_cons_succ, List.getElem?_cons_zero]; rfl
        case hqr2_11 => exact fun _ _ _ h => h
        case hyr2_11 => exact Or.inr ⟨by rfl, rfl⟩
        try simp only [Act.put, List.setIfInBounds_toArray, List.set_cons_zero, List.set_cons_succ]
        refine wpAnyH_take (i := 12) (oi := ?oir2_12) (v := undef) ?hir2_12 (by kernel_rfl) (by kernel_rfl) (by kernel_rfl) ?hqr2_12 ?hyr2_12 (by assumption) ?restr2_12
        case hir2_12 => simp only [List.getElem?_toArray, List.getElem?_cons_succ, List.getElem?_cons_zero]; rfl
        case hqr2_12 => exact fun _ _ _ h => h
        case hyr2_12 => exact Or.inr ⟨by rfl, rfl⟩
        try simp only [Act.put, List.setIfInBounds_toArray, List.set_cons_zero, List.set_cons_succ]
        refine wpAnyH_take (i := 13) (oi := ?oir2_13) (v := undef) ?hir2_13 (by kernel_rfl) (by kernel_rfl) (by kernel_rfl) ?hqr2_13 ?hyr2_13 (by assumption) ?restr2_13
        case hir2_13 => simp only [List.getElem?_toArray, List.getElem?_cons_succ, List.getElem?_cons_zero]; rfl
        case hqr2_13 => exact fun _ _ _ h => h
        case hyr2_13 => exact Or.inr ⟨by rfl, rfl⟩
        try simp only [Act.put, List.setIfInBounds_toArray, List.set_cons_zero, List.set_cons_succ]
        refine wpAnyH_take (i := 14) (oi := ?oir2_14) (v := undef) ?hir2_14 (by kernel_rfl) (by kernel_rfl) (by kernel_rfl) ?hqr2_14 ?hyr2_14 (by assumption) ?restr2_14
        case hir2_14 => simp only [List.getElem?_toArray, List.getElem?_cons_succ, List.getElem?_cons_zero]; rfl
        case hqr2_14 => exact fun _ _ _ h => h
        case hyr2_14 => exact Or.inr ⟨by rfl, rfl⟩
        try simp only [Act.put, List.setIfInBounds_toArray, List.set_cons_zero, List.set_cons_succ]
        refine wpAnyH_take (i := 15) (oi := ?oir2_15) (v := undef) ?hir2_15 (by kernel_rfl) (by kernel_rfl) (by kernel_rfl) ?hqr2_15 ?hyr2_15 (by assumption) ?restr2_15
        case hir2_15 => simp only [List.getElem?_toArray, List.getElem?_cons_succ, List.getElem?_cons_zero]; rfl
        case hqr2_15 => exact fun _ _ _ h => h
        case hyr2_15 => exact Or.inr ⟨by rfl, rfl⟩
        try simp only [Act.put, List.setIfInBounds_toArray, List.set_cons_zero, List.set_cons_succ]
        refine wpAnyH_take (i := 16) (oi := ?oir2_16) (v := undef) ?hir2_16 (by kernel_rfl) (by kernel_rfl) (by kernel_rfl) ?hqr2_16 ?hyr2_16 (by assumption) ?restr2_16
        case hir2_16 => simp only [List.getElem?_toArray, List.getElem?_cons_succ, List.getElem?_cons_zero]; rfl
        case hqr2_16 => exact fun _ _ _ h => h
        case hyr2_16 => exact Or.inr ⟨by rfl, rfl⟩
        try simp only [Act.put, List.setIfInBounds_toArray, List.set_cons_zero, List.set_cons_succ]
        refine wpAnyH_take (i := 17) (oi := ?oir2_17) (v := undef) ?hir2_17 (by kernel_rfl) (by kernel_rfl) (by kernel_rfl) ?hqr2_17 ?hyr2_17 (by assumption) ?restr2_17
        case hir2_17 => simp only [List.getElem?_toArray, List.getElem?_cons_succ, List.getElem?_cons_zero]; rfl
        case hqr2_17 => exact fun _ _ _ h => h
        case hyr2_17 => exact Or.inr ⟨by rfl, rfl⟩
        try simp only [Act.put, List.setIfInBounds_toArray, List.set_cons_zero, List.set_cons_succ]
        refine wpAnyH_take (i := 18) (oi := ?oir2_18) (v := undef) ?hir2_18 (by kernel_rfl) (by kernel_rfl) (by kernel_rfl) ?hqr2_18 ?hyr2_18 (by assumption) ?restr2_18
        case hir2_18 => simp only [List.getElem?_toArray, List.getElem?_cons_succ, List.getElem?_cons_zero]; rfl
        case hqr2_18 => exact fun _ _ _ h => h
        case hyr2_18 => exact Or.inr ⟨by rfl, rfl⟩
        try simp only [Act.put, List.setIfInBounds_toArray, List.set_cons_zero, List.set_cons_succ]
        refine wpAnyH_take (i := 19) (oi := ?oir2_19) (v := undef) ?hir2_19 (by kernel_rfl) (by kernel_rfl) (by kernel_rfl) ?hqr2_19 ?hyr2_19 (by assumption) ?restr2_19
        case hir2_19 => simp only [List.getElem?_toArray, List.getElem?_cons_succ, List.getElem?_cons_zero]; rfl
        case hqr2_19 => exact fun _ _ _ h => h
        case hyr2_19 => exact Or.inr ⟨by rfl, rfl⟩
        try simp only [Act.put, List.setIfInBounds_toArray, List.set_cons_zero, List.set_cons_succ]
        refine wpAnyH_take (i := 20) (oi := ?oir2_20) (v := undef) ?hir2_20 (by kernel_rfl) (by kernel_rfl) (by kernel_rfl) ?hqr2_20 ?hyr2_20 (by assumption) ?restr2_20
        case hir2_20 => simp only [List.getElem?_toArray, List.getElem?_cons_succ, List.getElem?_cons_zero]; rfl
        case hqr2_20 => exact fun _ _ _ h => h
        case hyr2_20 => exact Or.inr ⟨by rfl, rfl⟩
        try simp only [Act.put, List.setIfInBounds_toArray, List.set_cons_zero, List.set_cons_succ]
        refine wpAnyH_take (i := 21) (oi := ?oir2_21) (v := undef) ?hir2_21 (by kernel_rfl) (by kernel_rfl) (by kernel_rfl) ?hqr2_21 ?hyr2_21 (by assumption) ?restr2_21
        case hir2_21 => simp only [List.getElem?_toArray, List.getElem?_cons_succ, List.getElem?_cons_zero]; rfl
        case hqr2_21 => exact fun _ _ _ h => h
        case hyr2_21 => exact Or.inr ⟨by rfl, rfl⟩
        try simp only [Act.put, List.setIfInBounds_toArray, List.set_cons_zero, List.set_cons_succ]
        refine wpAnyH_take (i := 22) (oi := ?oir2_22) (v := undef) ?hir2_22 (by kernel_rfl) (by kernel_rfl) (by kernel_rfl) ?hqr2_22 ?hyr2_22 (by assumption) ?restr2_22
        case hir2_22 => simp only [List.getElem?_toArray, List.getElem?_cons_succ, List.getElem?_cons_zero]; rfl
        case hqr2_22 => exact fun _ _ _ h => h
        case hyr2_22 => exact Or.inr ⟨by rfl, rfl⟩
        try simp only [Act.put, List.setIfInBounds_toArray, List.set_cons_zero, List.set_cons_succ]
        refine wpAnyH_take (i := 23) (oi := ?oir2_23) (v := ?vr2_23) ?hir2_23 (by kernel_rfl) (by kernel_rfl) (by kernel_rfl) ?hqr2_23 ?hyr2_23 (by assumption) ?restr2_23
        case hir2_23 => simp only [List.getElem?_toArray, List.getElem?_cons_succ, List.getElem?_cons_zero]; rfl
        case hqr2_23 => exact fun _ _ _ h => h
        case hyr2_23 => (refine Or.inl ⟨by rfl, ?_⟩; intro w hSw; (try dsimp only at hSw); go_simp; all_goals with_reducible rfl)
        try simp only [Act.put, List.setIfInBounds_toArray, List.set_cons_zero, List.set_cons_succ]
        refine wpAnyH_done (by kernel_rfl) ?_ _
        clear hHeld
        go_wp2_with fail
        go_ret
        exact ⟨by rw [HR.out, chk_bad (i := i) (by rw [HL.out]; exact hbig) (by rw [HL.out]; omega) HE.out]; rfl, hb⟩
      case true =>
        rcases i with _ | j
        case zero =>
          have HE : Hid (okAt vs 0 = true) := Lib.hid (by rw [okAt, HV.out, HM.out]; rfl)
          simp only [Nat.zero_mul, Nat.add_zero] at k0 k1 k2
          have D0 : Below wr.heap.size wr wr.drew := (Below.refl _ _).drew
          refine wp_region_held_drew (S := (fun w' => w'.cell? ⟨b, off, none⟩ = some (.string v.nm) ∧ w'.cell? ⟨b, off + 1, none⟩ = some (.int .i64 v.pc) ∧ w'.cell? ⟨b, off + 2, none⟩ = some (.int .u8 ((v.st : Nat) : Int)) ∧ True)) (by kernel_rfl) ?_ (fun hHeld => ?_)
          · exact ⟨cell_below D0 k0, cell_below D0 k1, cell_below D0 k2, trivial⟩
          have hb := hb.trans (D0.mono hb.size)
          have k0 := cell_below D0 k0
          have k1 := cell_below D0 k1
          have k2 := cell_below D0 k2
          clear D0
          generalize wr.drew = wd at *
          refine wpAnyH_take (i := 0) (oi := ?oir3_0) (v := ?vr3_0) ?hir3_0 (by kernel_rfl) (by kernel_rfl) (by kernel_rfl) ?hqr3_0 ?hyr3_0 (by assumption) ?restr3_0
          case hir3_0 => simp only [List.getElem?_toArray, List.getElem?_cons_succ, List.getElem?_cons_zero]; rfl
          case hqr3_0 => exact fun _ _ _ h => h
          case hyr3_0 => (refine Or.inl ⟨by rfl, ?_⟩; intro w hSw; (try dsimp only at hSw); go_simp; all_goals with_reducible rfl)
          try simp only [Act.put, List.setIfInBounds_toArray, List.set_cons_zero, List.set_cons_succ]
          refine wpAnyH_take (i := 1) (oi := ?oir3_1) (v := ?vr3_1) ?hir3_1 (by kernel_rfl) (by kernel_rfl) (by kernel_rfl) ?hqr3_1 ?hyr3_1 (by assumption) ?restr3_1
          case hir3_1 => simp only [List.getElem?_toArray, List.getElem?_cons_succ, List.getElem?_cons_zero]; rfl
          case hqr3_1 => exact fun _ _ _ h => h
          case hyr3_1 => (refine Or.inl ⟨by rfl, ?_⟩; intro w hSw; (try dsimp only at hSw); go_simp; all_goals with_reducible rfl)
          try simp only [Act.put, List.setIfInBounds_toArray, List.set_cons_zero, List.set_cons_succ]
          refine wpAnyH_take (i := 2) (oi := ?oir3_2) (v := ?vr3_2) ?hir3_2 (by kernel_rfl) (by kernel_rfl) (by kernel_rfl) ?hqr3_2 ?hyr3_2 (by assumption) ?restr3_2
          case hir3_2 => simp only [List.getElem?_toArray, List.getElem?_cons_succ, List.getElem?_cons_zero]; rfl
          case hqr3_2 => exact fun _ _ _ h => h
          case hyr3_2 => (refine Or.inl ⟨by rfl, ?_⟩; intro w hSw; (try dsimp only at hSw); go_simp; all_goals with_reducible rfl)
          try simp only [Act.put, List.setIfInBounds_toArray, List.set_cons_zero, List.set_cons_succ]
          refine wpAnyH_take (i := 3) (oi := ?oir3_3) (v := ?vr3_3) ?hir3_3 (by kernel_rfl) (by kernel_rfl) (by kernel_rfl) ?hqr3_3 ?hyr3_3 (by assumption) ?restr3_3
          case hir3_3 => simp only [List.getElem?_toArray, List.getElem?_cons_succ, List.getElem?_cons_zero]; rfl
          case hqr3_3 => exact fun _ _ _ h => h
          case hyr3_3 => (refine Or.inl ⟨by rfl, ?_⟩; intro w hSw; (try dsimp only at hSw); go_simp; all_goals with_reducible rfl)
          try simp only [Act.put, List.setIfInBounds_toArray, List.set_cons_zero, List.set_cons_succ]
          refine wpAnyH_ready (rs := [4]) (by kernel_rfl) (by simp) ?_
          refine AllReadyH.cons (o := ?oq3_4) ?hoq3_4 (fun K hK => ?kq3_4) AllReadyH.nil
          case hoq3_4 => simp only [List.getElem?_toArray, List.getElem?_cons_succ, List.getElem?_cons_zero]; rfl
          go_simp
          have c := refMay_any wd v
          rw [HM.out] at c
          refine c.mono ?_
          rintro e w1 ⟨rfl, hb1⟩
          clear c
          have hb := hb.trans (hb1.mono hb.size)
          go_wp2_with fail
          refine hK.out _ _ ?_ (fun hHeld => ?_)
          · exact ⟨cell_below hb1 k0, cell_below hb1 k1, cell_below hb1 k2, trivial⟩
          clear hK K
          try simp only [Act.put, List.setIfInBounds_toArray, List.set_cons_zero, List.set_cons_succ]
          refine wpAnyH_take (i := 5) (oi := ?oir4_5) (v := ?vr4_5) ?hir4_5 (by kernel_rfl) (by kernel_rfl) (by kernel_rfl) ?hqr4_5 ?hyr4_5 (by assumption) ?restr4_5
          case hir4_5 => simp only [List.getElem?_toArray, List.getElem?_cons_succ, List.getElem?_cons_zero]; rfl
          case hqr4_5 => exact fun _ _ _ h => h
          case hyr4_5 => (refine Or.inl ⟨by rfl, ?_⟩; intro w hSw; (try dsimp only at hSw); go_simp; all_goals with_reducible rfl)
          try simp only [Act.put, List.setIfInBounds_toArray, List.set_cons_zero, List.set_cons_succ]
          refine wpAnyH_take (i := 6) (oi := ?oir4_6) (v := ?vr4_6) ?hir4_6 (by kernel_rfl) (by kernel_rfl) (by kernel_rfl) ?hqr4_6 ?hyr4_6 (by assumption) ?restr4_6
          case hir4_6 => simp only [List.getElem?_toArray, List.getElem?_cons_succ, List.getElem?_cons_zero]; rfl
          case hqr4_6 => exact fun _ _ _ h => h
          case hyr4_6 => (refine Or.inl ⟨by rfl, ?_⟩; intro w hSw; (try dsimp only at hSw); go_simp; all_goals with_reducible rfl)
          try simp only [Act.put, List.setIfInBounds_toArray, List.set_cons_zero, List.set_cons_succ]
          refine wpAnyH_take (i := 7) (oi := ?oir4_7) (v := ?vr4_7) ?hir4_7 (by kernel_rfl) (by kernel_rfl) (by kernel_rfl) ?hqr4_7 ?hyr4_7 (by assumption) ?restr4_7
          case hir4_7 => simp only [List.getElem?_toArray, List.getElem?_cons_succ, List.getElem?_cons_zero]; rfl
          case hqr4_7 => exact fun _ _ _ h => h
          case hyr4_7 => (refine Or.inl ⟨by rfl, ?_⟩; intro w hSw; (try dsimp only at hSw); go_simp; all_goals with_reducible rfl)
          try simp only [Act.put, List.setIfInBounds_toArray, List.set_cons_zero, List.set_cons_succ]
          refine wpAnyH_take (i := 8) (oi := ?oir4_8) (v := ?vr4_8) ?hir4_8 (by kernel_rfl) (by kernel_rfl) (by kernel_rfl) ?hqr4_8 ?hyr4_8 (by assumption) ?restr4_8
          case hir4_8 => simp only [List.getElem?_toArray, List.getElem?_cons_succ, List.getElem?_cons_zero]; rfl
          case hqr4_8 => exact fun _ _ _ h => h
          case hyr4_8 => (refine Or.inl ⟨by rfl, ?_⟩; intro w hSw; (try dsimp only at hSw); go_simp; all_goals with_reducible rfl)
          try simp only [Act.put, List.setIfInBounds_toArray, List.set_cons_zero, List.set_cons_succ]
          refine wpAnyH_take (i := 9) (oi := ?oir4_9) (v := ?vr4_9) ?hir4_9 (by kernel_rfl) (by kernel_rfl) (by kernel_rfl) ?hqr4_9 ?hyr4_9 (by assumption) ?restr4_9
          case hir4_9 => simp only [List.getElem?_toArray, List.getElem?_cons_succ, List.getElem?_cons_zero]; rfl
          case hqr4_9 => exact fun _ _ _ h => h
          case hyr4_9 => (refine Or.inl ⟨by rfl, ?_⟩; intro w hSw; (try dsimp only at hSw); go_simp; all_goals with_reducible rfl)
          try simp only [Act.put, List.setIfInBounds_toArray, List.set_cons_zero, List.set_cons_succ]
          refine wpAnyH_take (i := 10) (oi := ?oir4_10) (v := undef) ?hir4_10 (by kernel_rfl) (by kernel_rfl) (by kernel_rfl) ?hqr4_10 ?hyr4_10 (by assumption) ?restr4_10
          case hir4_10 => simp only [List.getElem?_toArray, List.getElem?_cons_succ, List.getElem?_cons_zero]; rfl
          case hqr4_10 => exact fun _ _ _ h => h
          case hyr4_10 => exact Or.inr ⟨by rfl, rfl⟩
          try simp only [Act.put, List.setIfInBounds_toArray, List.set_cons_zero, List.set_cons_succ]
          refine wpAnyH_take (i := 11) (oi := ?oir4_11) (v := undef) ?hir4_11 (by kernel_rfl) (by kernel_rfl) (by kernel_rfl) ?hqr4_11 ?hyr4_11 (by assumption) ?restr4_11
          case hir4_11 => simp only [List.getElem?_toArray, List.getElem?_cons_succ, List.getElem?_cons_zero]; rfl
          case hqr4_11 => exact fun _ _ _ h => h
          case hyr4_11 => exact Or.inr ⟨by rfl, rfl⟩
          try simp only [Act.put, List.setIfInBounds_toArray, List.set_cons_zero, List.set_cons_succ]
          refine wpAnyH_take (i := 12) (oi := ?oir4_12) (v := undef) ?hir4_12 (by kernel_rfl) (by kernel_rfl) (by kernel_rfl) ?hqr4_12 ?hyr4_12 (by assumption) ?restr4_12
          case hir4_12 => simp only [List.getElem?_toArray, List.getElem?_cons_succ, List.getElem?_cons_zero]; rfl
          case hqr4_12 => exact fun _ _ _ h => h
          case hyr4_12 => exact Or.inr ⟨by rfl, rfl⟩
          try simp only [Act.put, List.setIfInBounds_toArray, List.set_cons_zero, List.set_cons_succ]
          refine wpAnyH_take (i := 13) (oi := ?oir4_13) (v := undef) ?hir4_13 (by kernel_rfl) (by kernel_rfl) (by kernel_rfl) ?hqr4_13 ?hyr4_13 (by assumption) ?restr4_13
          case hir4_13 => simp only [List.getElem?_toArray, List.getElem?_cons_succ, List.getElem?_cons_zero]; rfl
          case hqr4_13 => exact fun _ _ _ h => h
          case hyr4_13 => exact Or.inr ⟨by rfl, rfl⟩
          try simp only [Act.put, List.setIfInBounds_toArray, List.set_cons_zero, List.set_cons_succ]
          refine wpAnyH_take (i := 14) (oi := ?oir4_14) (v := undef) ?hir4_14 (by kernel_rfl) (by kernel_rfl) (by kernel_rfl) ?hqr4_14 ?hyr4_14 (by assumption) ?restr4_14
          case hir4_14 => simp only [List.getElem?_toArray, List.getElem?_cons_succ, List.getElem?_cons_zero]; rfl
          case hqr4_14 => exact fun _ _ _ h => h
          case hyr4_14 => exact Or.inr ⟨by rfl, rfl⟩
          try simp only [Act.put, List.setIfInBounds_toArray, List.set_cons_zero, List.set_cons_succ]
          refine wpAnyH_take (i := 15) (oi := ?oir4_15) (v := undef) ?hir4_15 (by kernel_rfl) (by kernel_rfl) (by kernel_rfl) ?hqr4_15 ?hyr4_15 (by assumption) ?restr4_15
          case hir4_15 => simp only [List.getElem?_toArray, List.getElem?_cons_succ, List.getElem?_cons_zero]; rfl
          case hqr4_15 => exact fun _ _ _ h => h
          case hyr4_15 => exact Or.inr ⟨by rfl, rfl⟩
          try simp only [Act.put, List.setIfInBounds_toArray, List.set_cons_zero, List.set_cons_succ]
          refine wpAnyH_take (i := 16) (oi := ?oir4_16) (v := undef) ?hir4_16 (by kernel_rfl) (by kernel_rfl) (by kernel_rfl) ?hqr4_16 ?hyr4_16 (by assumption) ?restr4_16
          case hir4_16 => simp only [List.getElem?_toArray, List.getElem?_cons_succ, List.getElem?_cons_zero]; rfl
          case hqr4_16 => exact fun _ _ _ h => h
          case hyr4_16 => exact Or.inr ⟨by rfl, rfl⟩
          try simp only [Act.put, List.setIfInBounds_toArray, List.set_cons_zero, List.set_cons_succ]
          refine wpAnyH_take (i := 17) (oi := ?oir4_17) (v := undef) ?hir4_17 (by kernel_rfl) (by kernel_rfl) (by kernel_rfl) ?hqr4_17 ?hyr4_17 (by assumption) ?restr4_17
          case hir4_17 => simp only [List.getElem?_toArray, List.getElem?_cons_succ, List.getElem?_cons_zero]; rfl
          case hqr4_17 => exact fun _ _ _ h => h
          case hyr4_17 => exact Or.inr ⟨by rfl, rfl⟩
          try simp only [Act.put, List.setIfInBounds_toArray, List.set_cons_zero, List.set_cons_succ]
          refine wpAnyH_take (i := 18) (oi := ?oir4_18) (v := undef) ?hir4_18 (by kernel_rfl) (by kernel_rfl) (by kernel_rfl) ?hqr4_18 ?hyr4_18 (by assumption) ?restr4_18
          case hir4_18 => simp only [List.getElem?_toArray, List.getElem?_cons_succ, List.getElem?_cons_zero]; rfl
          case hqr4_18 => exact fun _ _ _ h => h
          case hyr4_18 => exact Or.inr ⟨by rfl, rfl⟩
          try simp only [Act.put, List.setIfInBounds_toArray, List.set_cons_zero, List.set_cons_succ]
          refine wpAnyH_take (i := 19) (oi := ?oir4_19) (v := undef) ?hir4_19 (by kernel_rfl) (by kernel_rfl) (by kernel_rfl) ?hqr4_19 ?hyr4_19 (by assumption) ?restr4_19
          case hir4_19 => simp only [List.getElem?_toArray, List.getElem?_cons_succ, List.getElem?_cons_zero]; rfl
          case hqr4_19 => exact fun _ _ _ h => h
          case hyr4_19 => exact Or.inr ⟨by rfl, rfl⟩
          try simp only [Act.put, List.setIfInBounds_toArray, List.set_cons_zero, List.set_cons_succ]
          refine wpAnyH_take (i := 20) (oi := ?oir4_20) (v := undef) ?hir4_20 (by kernel_rfl) (by kernel_rfl) (by kernel_rfl) ?hqr4_20 ?hyr4_20 (by assumption) ?restr4_20
          case hir4_20 => simp only [List.getElem?_toArray, List.getElem?_cons_succ, List.getElem?_cons_zero]; rfl
          case hqr4_20 => exact fun _ _ _ h => h
          case hyr4_20 => exact Or.inr ⟨by rfl, rfl⟩
          try simp only [Act.put, List.setIfInBounds_toArray, List.set_cons_zero, List.set_cons_succ]
          refine wpAnyH_take (i := 21) (oi := ?oir4_21) (v := undef) ?hir4_21 (by kernel_rfl) (by kernel_rfl) (by kernel_rfl) ?hqr4_21 ?hyr4_21 (by assumption) ?restr4_21
          case hir4_21 => simp only [List.getElem?_toArray, List.getElem?_cons_succ, List.getElem?_cons_zero]; rfl
          case hqr4_21 => exact fun _ _ _ h => h
          case hyr4_21 => exact Or.inr ⟨by rfl, rfl⟩
          try simp only [Act.put, List.setIfInBounds_toArray, List.set_cons_zero, List.set_cons_succ]
          refine wpAnyH_take (i := 22) (oi := ?oir4_22) (v := ?vr4_22) ?hir4_22 (by kernel_rfl) (by kernel_rfl) (by kernel_rfl) ?hqr4_22 ?hyr4_22 (by assumption) ?restr4_22
          case hir4_22 => simp only [List.getElem?_toArray, List.getElem?_cons_succ, List.getElem?_cons_zero]; rfl
          case hqr4_22 => exact fun _ _ _ h => h
          case hyr4_22 => (refine Or.inl ⟨by rfl, ?_⟩; intro w hSw; (try dsimp only at hSw); go_simp; all_goals with_reducible rfl)
          try simp only [Act.put, List.setIfInBounds_toArray, List.set_cons_zero, List.set_cons_succ]
          refine wpAnyH_take (i := 23) (oi := ?oir4_23) (v := ?vr4_23) ?hir4_23 (by kernel_rfl) (by kernel_rfl) (by kernel_rfl) ?hqr4_23 ?hyr4_23 (by assumption) ?restr4_23
          case hir4_23 => simp only [List.getElem?_toArray, List.getElem?_cons_succ, List.getElem?_cons_zero]; rfl
          case hqr4_23 => exact fun _ _ _ h => h
          case hyr4_23 => (refine Or.inl ⟨by rfl, ?_⟩; intro w hSw; (try dsimp only at hSw); go_simp; all_goals with_reducible rfl)
          try simp only [Act.put, List.setIfInBounds_toArray, List.set_cons_zero, List.set_cons_succ]
          refine wpAnyH_done (by kernel_rfl) ?_ _
          clear hHeld
          go_wp2_with fail
          go_roundw
          case rel => exact ⟨1, by omega, by go_num, hb, Lib.hid fun k hk => by
                        obtain rfl : k = 0 := by omega
                        exact HE.out⟩
          case measure => simp [intOf]; omega
        case succ =>
          have kp := HP.out j (by omega)
          obtain ⟨p, hp⟩ : ∃ p, vth vs j = p := ⟨_, rfl⟩
          rw [hp] at kp
          have HPP := Lib.hid hp
          clear hp
          have hjw : ((j : Nat) : Int) < (n : Int) := by omega
          have hjw1 : ((j : Nat) : Int) + 1 < (n : Int) := by omega
          have hjr : IntKind.i64.wrap ((j : Nat) : Int) = ((j : Nat) : Int) := wrap_in (by omega) (by omega)
          have hjw0 : (0 : Int) ≤ ((j : Nat) : Int) + 1 := by omega
          have HE : Hid (okAt vs (j + 1) = ltS p.nm v.nm) := Lib.hid (by rw [okAt, HV.out, HM.out, Nat.add_sub_cancel, HPP.out]; simp)
          have hcmp : (!(Op.bytesLess p.nm.toList v.nm.toList)) = !ltS p.nm v.nm := rfl
          cases hlts : ltS p.nm v.nm
          case false =>
            rw [hlts] at hcmp HE
            have D0 : Below wr.heap.size wr wr.drew := (Below.refl _ _).drew
            refine wp_region_held_drew (S := (fun w' => w'.cell? ⟨b, off + (j + 1) * 3, none⟩ = some (.string v.nm) ∧ w'.cell? ⟨b, off + (j + 1) * 3 + 1, none⟩ = some (.int .i64 v.pc) ∧ w'.cell? ⟨b, off + (j + 1) * 3 + 2, none⟩ = some (.int .u8 ((v.st : Nat) : Int)) ∧ w'.cell? ⟨b, off + j * 3, none⟩ = some (.string p.nm) ∧ True)) (by kernel_rfl) ?_ (fun hHeld => ?_)
            · exact ⟨cell_below D0 k0, cell_below D0 k1, cell_below D0 k2, cell_below D0 kp, trivial⟩
            have hb := hb.trans (D0.mono hb.size)
            have k0 := cell_below D0 k0
            have k1 := cell_below D0 k1
            have k2 := cell_below D0 k2
            have kp := cell_below D0 kp
            clear D0
            generalize wr.drew = wd at *
            refine wpAnyH_take (i := 0) (oi := ?oir5_0) (v := ?vr5_0) ?hir5_0 (by kernel_rfl) (by kernel_rfl) (by kernel_rfl) ?hqr5_0 ?hyr5_0 (by assumption) ?restr5_0
            case hir5_0 => simp only [List.getElem?_toArray, List.getElem?_cons_succ, List.getElem?_cons_zero]; rfl
            case hqr5_0 => exact fun _ _ _ h => h
            case hyr5_0 => (refine Or.inl ⟨by rfl, ?_⟩; intro w hSw; (try dsimp only at hSw); go_simp; all_goals with_reducible rfl)
            try simp only [Act.put, List.setIfInBounds_toArray, List.set_cons_zero, List.set_cons_succ]
            refine wpAnyH_take (i := 1) (oi := ?oir5_1) (v := ?vr5_1) ?hir5_1 (by kernel_rfl) (by kernel_rfl) (by kernel_rfl) ?hqr5_1 ?hyr5_1 (by assumption) ?restr5_1
            case hir5_1 => simp only [List.getElem?_toArray, List.getElem?_cons_succ, List.getElem?_cons_zero]; rfl
            case hqr5_1 => exact fun _ _ _ h => h
            case hyr5_1 => (refine Or.inl ⟨by rfl, ?_⟩; intro w hSw; (try dsimp only at hSw); go_simp; all_goals with_reducible rfl)
            try simp only [Act.put, List.setIfInBounds_toArray, List.set_cons_zero, List.set_cons_succ]
            refine wpAnyH_take (i := 2) (oi := ?oir5_2) (v := ?vr5_2) ?hir5_2 (by kernel_rfl) (by kernel_rfl) (by kernel_rfl) ?hqr5_2 ?hyr5_2 (by assumption) ?restr5_2
            case hir5_2 => simp only [List.getElem?_toArray, List.getElem?_cons_succ, List.getElem?_cons_zero]; rfl
            case hqr5_2 => exact fun _ _ _ h => h
            case hyr5_2 => (refine Or.inl ⟨by rfl, ?_⟩; intro w hSw; (try dsimp only at hSw); go_simp; all_goals with_reducible rfl)
            try simp only [Act.put, List.setIfInBounds_toArray, List.set_cons_zero, List.set_cons_succ]
            refine wpAnyH_take (i := 3) (oi := ?oir5_3) (v := ?vr5_3) ?hir5_3 (by kernel_rfl) (by kernel_rfl) (by kernel_rfl) ?hqr5_3 ?hyr5_3 (by assumption) ?restr5_3
            case hir5_3 => simp only [List.getElem?_toArray, List.getElem?_cons_succ, List.getElem?_cons_zero]; rfl
            case hqr5_3 => exact fun _ _ _ h => h
            case hyr5_3 => (refine Or.inl ⟨by rfl, ?_⟩; intro w hSw; (try dsimp only at hSw); go_simp; all_goals with_reducible rfl)
            try simp only [Act.put, List.setIfInBounds_toArray, List.set_cons_zero, List.set_cons_succ]
            refine wpAnyH_ready (rs := [4]) (by kernel_rfl) (by simp) ?_
            refine AllReadyH.cons (o := ?oq5_4) ?hoq5_4 (fun K hK => ?kq5_4) AllReadyH.nil
            case hoq5_4 => simp only [List.getElem?_toArray, List.getElem?_cons_succ, List.getElem?_cons_zero]; rfl
            go_simp
            have c := refMay_any wd v
            rw [HM.out] at c
            refine c.mono ?_
            rintro e w1 ⟨rfl, hb1⟩
            clear c
            have hb := hb.trans (hb1.mono hb.size)
            go_wp2_with fail
            refine hK.out _ _ ?_ (fun hHeld => ?_)
            · exact ⟨cell_below hb1 k0, cell_below hb1 k1, cell_below hb1 k2, cell_below hb1 kp, trivial⟩
            clear hK K
            try simp only [Act.put, List.setIfInBounds_toArray, List.set_cons_zero, List.set_cons_succ]
            refine wpAnyH_take (i := 5) (oi := ?oir6_5) (v := ?vr6_5) ?hir6_5 (by kernel_rfl) (by kernel_rfl) (by kernel_rfl) ?hqr6_5 ?hyr6_5 (by assumption) ?restr6_5
            case hir6_5 => simp only [List.getElem?_toArray, List.getElem?_cons_succ, List.getElem?_cons_zero]; rfl
            case hqr6_5 => exact fun _ _ _ h => h
            case hyr6_5 => (refine Or.inl ⟨by rfl, ?_⟩; intro w hSw; (try dsimp only at hSw); go_simp; all_goals with_reducible rfl)
            try simp only [Act.put, List.setIfInBounds_toArray, List.set_cons_zero, List.set_cons_succ]
            refine wpAnyH_take (i := 6) (oi := ?oir6_6) (v := ?vr6_6) ?hir6_6 (by kernel_rfl) (by kernel_rfl) (by kernel_rfl) ?hqr6_6 ?hyr6_6 (by assumption) ?restr6_6
            case hir6_6 => simp only [List.getElem?_toArray, List.getElem?_cons_succ, List.getElem?_cons_zero]; rfl
            case hqr6_6 => exact fun _ _ _ h => h
            case hyr6_6 => (refine Or.inl ⟨by rfl, ?_⟩; intro w hSw; (try dsimp only at hSw); go_simp; all_goals with_reducible rfl)
            try simp only [Act.put, List.setIfInBounds_toArray, List.set_cons_zero, List.set_cons_succ]
            refine wpAnyH_take (i := 7) (oi := ?oir6_7) (v := ?vr6_7) ?hir6_7 (by kernel_rfl) (by kernel_rfl) (by kernel_rfl) ?hqr6_7 ?hyr6_7 (by assumption) ?restr6_7
            case hir6_7 => simp only [List.getElem?_toArray, List.getElem?_cons_succ, List.getElem?_cons_zero]; rfl
            case hqr6_7 => exact fun _ _ _ h => h
            case hyr6_7 => (refine Or.inl ⟨by rfl, ?_⟩; intro w hSw; (try dsimp only at hSw); go_simp; all_goals with_reducible rfl)
            try simp only [Act.put, List.setIfInBounds_toArray, List.set_cons_zero, List.set_cons_succ]
            refine wpAnyH_take (i := 8) (oi := ?oir6_8) (v := ?vr6_8) ?hir6_8 (by kernel_rfl) (by kernel_rfl) (by kernel_rfl) ?hqr6_8 ?hyr6_8 (by assumption) ?restr6_8
            case hir6_8 => simp only [List.getElem?_toArray, List.getElem?_cons_succ, List.getElem?_cons_zero]; rfl
            case hqr6_8 => exact fun _ _ _ h => h
            case hyr6_8 => (refine Or.inl ⟨by rfl, ?_⟩; intro w hSw; (try dsimp only at hSw); go_simp; all_goals with_reducible rfl)
            try simp only [Act.put, List.setIfInBounds_toArray, List.set_cons_zero, List.set_cons_succ]
            refine wpAnyH_take (i := 9) (oi := ?oir6_9) (v := ?vr6_9) ?hir6_9 (by kernel_rfl) (by kernel_rfl) (by kernel_rfl) ?hqr6_9 ?hyr6_9 (by assumption) ?restr6_9
            case hir6_9 => simp only [List.getElem?_toArray, List.getElem?_cons_succ, List.getElem?_cons_zero]; rfl
            case hqr6_9 => exact fun _ _ _ h => h
            case hyr6_9 => (refine Or.inl ⟨by rfl, ?_⟩; intro w hSw; (try dsimp only at hSw); go_simp; all_goals with_reducible rfl)
            try simp only [Act.put, List.setIfInBounds_toArray, List.set_cons_zero, List.set_cons_succ]
            refine wpAnyH_take (i := 10) (oi := ?oir6_10) (v := ?vr6_10) ?hir6_10 (by kernel_rfl) (by kernel_rfl) (by kernel_rfl) ?hqr6_10 ?hyr6_10 (by assumption) ?restr6_10
            case hir6_10 => simp only [List.getElem?_toArray, List.getElem?_cons_succ, List.getElem?_cons_zero]; rfl
            case hqr6_10 => exact fun _ _ _ h => h
            case hyr6_10 => (refine Or.inl ⟨by rfl, ?_⟩; intro w hSw; (try dsimp only at hSw); go_simp; all_goals with_reducible rfl)
            try simp only [Act.put, List.setIfInBounds_toArray, List.set_cons_zero, List.set_cons_succ]
            refine wpAnyH_take (i := 11) (oi := ?oir6_11) (v := ?vr6_11) ?hir6_11 (by kernel_rfl) (by kernel_rfl) (by kernel_rfl) ?hqr6_11 ?hyr6_11 (by assumption) ?restr6_11
            case hir6_11 => simp only [List.getElem?_toArray, List.getElem?_cons_succ, List.getElem?_cons_zero]; rfl
            case hqr6_11 => exact fun _ _ _ h => h
            case hyr6_11 => (refine Or.inl ⟨by rfl, ?_⟩; intro w hSw; (try dsimp only at hSw); go_simp; all_goals with_reducible rfl)
            try simp only [Act.put, List.setIfInBounds_toArray, List.set_cons_zero, List.set_cons_succ]
            refine wpAnyH_take (i := 12) (oi := ?oir6_12) (v := ?vr6_12) ?hir6_12 (by kernel_rfl) (by kernel_rfl) (by kernel_rfl) ?hqr6_12 ?hyr6_12 (by assumption) ?restr6_12
            case hir6_12 => simp only [List.getElem?_toArray, List.getElem?_cons_succ, List.getElem?_cons_zero]; rfl
            case hqr6_12 => exact fun _ _ _ h => h
            case hyr6_12 => (refine Or.inl ⟨by rfl, ?_⟩; intro w hSw; (try dsimp only at hSw); go_simp; all_goals with_reducible rfl)
            try simp only [Act.put, List.setIfInBounds_toArray, List.set_cons_zero, List.set_cons_succ]
            refine wpAnyH_take (i := 13) (oi := ?oir6_13) (v := ?vr6_13) ?hir6_13 (by kernel_rfl) (by kernel_rfl) (by kernel_rfl) ?hqr6_13 ?hyr6_13 (by assumption) ?restr6_13
            case hir6_13 => simp only [List.getElem?_toArray, List.getElem?_cons_succ, List.getElem?_cons_zero]; rfl
            case hqr6_13 => exact fun _ _ _ h => h
            case hyr6_13 => (refine Or.inl ⟨by rfl, ?_⟩; intro w hSw; (try dsimp only at hSw); go_simp; all_goals with_reducible rfl)
            try simp only [Act.put, List.setIfInBounds_toArray, List.set_cons_zero, List.set_cons_succ]
            refine wpAnyH_take (i := 14) (oi := ?oir6_14) (v := ?vr6_14) ?hir6_14 (by kernel_rfl) (by kernel_rfl) (by kernel_rfl) ?hqr6_14 ?hyr6_14 (by assumption) ?restr6_14
            case hir6_14 => simp only [List.getElem?_toArray, List.getElem?_cons_succ, List.getElem?_cons_zero]; rfl
            case hqr6_14 => exact fun _ _ _ h => h
            case hyr6_14 => (refine Or.inl ⟨by rfl, ?_⟩; intro w hSw; (try dsimp only at hSw); go_simp; all_goals with_reducible rfl)
            try simp only [Act.put, List.setIfInBounds_toArray, List.set_cons_zero, List.set_cons_succ]
            refine wpAnyH_take (i := 15) (oi := ?oir6_15) (v := ?vr6_15) ?hir6_15 (by kernel_rfl) (by kernel_rfl) (by kernel_rfl) ?hqr6_15 ?hyr6_15 (by assumption) ?restr6_15
            case hir6_15 => simp only [List.getElem?_toArray, List.getElem?_cons_succ, List.getElem?_cons_zero]; rfl
            case hqr6_15 => exact fun _ _ _ h => h
            case hyr6_15 => (refine Or.inl ⟨by rfl, ?_⟩; intro w hSw; (try dsimp only at hSw); go_simp; all_goals with_reducible rfl)
            try simp only [Act.put, List.setIfInBounds_toArray, List.set_cons_zero, List.set_cons_succ]
            refine wpAnyH_take (i := 16) (oi := ?oir6_16) (v := ?vr6_16) ?hir6_16 (by kernel_rfl) (by kernel_rfl) (by kernel_rfl) ?hqr6_16 ?hyr6_16 (by assumption) ?restr6_16
            case hir6_16 => simp only [List.getElem?_toArray, List.getElem?_cons_succ, List.getElem?_cons_zero]; rfl
            case hqr6_16 => exact fun _ _ _ h => h
            case hyr6_16 => (refine Or.inl ⟨by rfl, ?_⟩; intro w hSw; (try dsimp only at hSw); go_simp; all_goals with_reducible rfl)
            try simp only [Act.put, List.setIfInBounds_toArray, List.set_cons_zero, List.set_cons_succ]
            refine wpAnyH_take (i := 17) (oi := ?oir6_17) (v := ?vr6_17) ?hir6_17 (by kernel_rfl) (by kernel_rfl) (by kernel_rfl) ?hqr6_17 ?hyr6_17 (by assumption) ?restr6_17
            case hir6_17 => simp only [List.getElem?_toArray, List.getElem?_cons_succ, List.getElem?_cons_zero]; rfl
            case hqr6_17 => exact fun _ _ _ h => h
            case hyr6_17 => (refine Or.inl ⟨by rfl, ?_⟩; intro w hSw; (try dsimp only at hSw); go_simp; all_goals with_reducible rfl)
            try simp only [Act.put, List.setIfInBounds_toArray, List.set_cons_zero, List.set_cons_succ]
            refine wpAnyH_take (i := 18) (oi := ?oir6_18) (v := ?vr6_18) ?hir6_18 (by kernel_rfl) (by kernel_rfl) (by kernel_rfl) ?hqr6_18 ?hyr6_18 (by assumption) ?restr6_18
            case hir6_18 => simp only [List.getElem?_toArray, List.getElem?_cons_succ, List.getElem?_cons_zero]; rfl
            case hqr6_18 => exact fun _ _ _ h => h
            case hyr6_18 => (refine Or.inl ⟨by rfl, ?_⟩; intro w hSw; (try dsimp only at hSw); go_simp; all_goals with_reducible rfl)
            try simp only [Act.put, List.setIfInBounds_toArray, List.set_cons_zero, List.set_cons_succ]
            refine wpAnyH_take (i := 19) (oi := ?oir6_19) (v := ?vr6_19) ?hir6_19 (by kernel_rfl) (by kernel_rfl) (by kernel_rfl) ?hqr6_19 ?hyr6_19 (by assumption) ?restr6_19
            case hir6_19 => simp only [List.getElem?_toArray, List.getElem?_cons_succ, List.getElem?_cons_zero]; rfl
            case hqr6_19 => exact fun _ _ _ h => h
            case hyr6_19 => (refine Or.inl ⟨by rfl, ?_⟩; intro w hSw; (try dsimp only at hSw); go_simp; all_goals with_reducible rfl)
            try simp only [Act.put, List.setIfInBounds_toArray, List.set_cons_zero, List.set_cons_succ]
            refine wpAnyH_take (i := 20) (oi := ?oir6_20) (v := ?vr6_20) ?hir6_20 (by kernel_rfl) (by kernel_rfl) (by kernel_rfl) ?hqr6_20 ?hyr6_20 (by assumption) ?restr6_20
            case hir6_20 => simp only [List.getElem?_toArray, List.getElem?_cons_succ, List.getElem?_cons_zero]; rfl
            case hqr6_20 => exact fun _ _ _ h => h
            case hyr6_20 => (refine Or.inl ⟨by rfl, ?_⟩; intro w hSw; (try dsimp only at hSw); go_simp; all_goals with_reducible rfl)
            try simp only [Act.put, List.setIfInBounds_toArray, List.set_cons_zero, List.set_cons_succ]
            refine wpAnyH_take (i := 21) (oi := ?oir6_21) (v := ?vr6_21) ?hir6_21 (by kernel_rfl) (by kernel_rfl) (by kernel_rfl) ?hqr6_21 ?hyr6_21 (by assumption) ?restr6_21
            case hir6_21 => simp only [List.getElem?_toArray, List.getElem?_cons_succ, List.getElem?_cons_zero]; rfl
            case hqr6_21 => exact fun _ _ _ h => h
            case hyr6_21 => (refine Or.inl ⟨by rfl, ?_⟩; intro w hSw; (try dsimp only at hSw); go_simp; all_goals with_reducible rfl)
            try simp only [Act.put, List.setIfInBounds_toArray, List.set_cons_zero, List.set_cons_succ]
            refine wpAnyH_take (i := 22) (oi := ?oir6_22) (v := ?vr6_22) ?hir6_22 (by kernel_rfl) (by kernel_rfl) (by kernel_rfl) ?hqr6_22 ?hyr6_22 (by assumption) ?restr6_22
            case hir6_22 => simp only [List.getElem?_toArray, List.getElem?_cons_succ, List.getElem?_cons_zero]; rfl
            case hqr6_22 => exact fun _ _ _ h => h
            case hyr6_22 => (refine Or.inl ⟨by rfl, ?_⟩; intro w hSw; (try dsimp only at hSw); go_simp; all_goals with_reducible rfl)
            try simp only [Act.put, List.setIfInBounds_toArray, List.set_cons_zero, List.set_cons_succ]
            refine wpAnyH_take (i := 23) (oi := ?oir6_23) (v := ?vr6_23) ?hir6_23 (by kernel_rfl) (by kernel_rfl) (by kernel_rfl) ?hqr6_23 ?hyr6_23 (by assumption) ?restr6_23
            case hir6_23 => simp only [List.getElem?_toArray, List.getElem?_cons_succ, List.getElem?_cons_zero]; rfl
            case hqr6_23 => exact fun _ _ _ h => h
            case hyr6_23 => (refine Or.inl ⟨by rfl, ?_⟩; intro w hSw; (try dsimp only at hSw); go_simp; all_goals with_reducible rfl)
            try simp only [Act.put, List.setIfInBounds_toArray, List.set_cons_zero, List.set_cons_succ]
            refine wpAnyH_done (by kernel_rfl) ?_ _
            clear hHeld
            go_wp2_with fail
            go_ret
            exact ⟨by rw [HR.out, chk_bad (i := (j + 1)) (by rw [HL.out]; exact hbig) (by rw [HL.out]; omega) HE.out]; rfl, hb⟩
          case true =>
            rw [hlts] at hcmp HE
            have D0 : Below wr.heap.size wr wr.drew := (Below.refl _ _).drew
            refine wp_region_held_drew (S := (fun w' => w'.cell? ⟨b, off + (j + 1) * 3, none⟩ = some (.string v.nm) ∧ w'.cell? ⟨b, off + (j + 1) * 3 + 1, none⟩ = some (.int .i64 v.pc) ∧ w'.cell? ⟨b, off + (j + 1) * 3 + 2, none⟩ = some (.int .u8 ((v.st : Nat) : Int)) ∧ w'.cell? ⟨b, off + j * 3, none⟩ = some (.string p.nm) ∧ True)) (by kernel_rfl) ?_ (fun hHeld => ?_)
            · exact ⟨cell_below D0 k0, cell_below D0 k1, cell_below D0 k2, cell_below D0 kp, trivial⟩
            have hb := hb.trans (D0.mono hb.size)
            have k0 := cell_below D0 k0
            have k1 := cell_below D0 k1
            have k2 := cell_below D0 k2
            have kp := cell_below D0 kp
            clear D0
            generalize wr.drew = wd at *
            refine wpAnyH_take (i := 0) (oi := ?oir7_0) (v := ?vr7_0) ?hir7_0 (by kernel_rfl) (by kernel_rfl) (by kernel_rfl) ?hqr7_0 ?hyr7_0 (by assumption) ?restr7_0
            case hir7_0 => simp only [List.getElem?_toArray, List.getElem?_cons_succ, List.getElem?_cons_zero]; rfl
            case hqr7_0 => exact fun _ _ _ h => h
            case hyr7_0 => (refine Or.inl ⟨by rfl, ?_⟩; intro w hSw; (try dsimp only at hSw); go_simp; all_goals with_reducible rfl)
            try simp only [Act.put, List.setIfInBounds_toArray, List.set_cons_zero, List.set_cons_succ]
            refine wpAnyH_take (i := 1) (oi := ?oir7_1) (v := ?vr7_1) ?hir7_1 (by kernel_rfl) (by kernel_rfl) (by kernel_rfl) ?hqr7_1 ?hyr7_1 (by assumption) ?restr7_1
            case hir7_1 => simp only [List.getElem?_toArray, List.getElem?_cons_succ, List.getElem?_cons_zero]; rfl
            case hqr7_1 => exact fun _ _ _ h => h
            case hyr7_1 => (refine Or.inl ⟨by rfl, ?_⟩; intro w hSw; (try dsimp only at hSw); go_simp; all_goals with_reducible rfl)
            try simp only [Act.put, List.setIfInBounds_toArray, List.set_cons_zero, List.set_cons_succ]
            refine wpAnyH_take (i := 2) (oi := ?oir7_2) (v := ?vr7_2) ?hir7_2 (by kernel_rfl) (by kernel_rfl) (by kernel_rfl) ?hqr7_2 ?hyr7_2 (by assumption) ?restr7_2
            case hir7_2 => simp only [List.getElem?_toArray, List.getElem?_cons_succ, List.getElem?_cons_zero]; rfl
            case hqr7_2 => exact fun _ _ _ h => h
            case hyr7_2 => (refine Or.inl ⟨by rfl, ?_⟩; intro w hSw; (try dsimp only at hSw); go_simp; all_goals with_reducible rfl)
            try simp only [Act.put, List.setIfInBounds_toArray, List.set_cons_zero, List.set_cons_succ]
            refine wpAnyH_take (i := 3) (oi := ?oir7_3) (v := ?vr7_3) ?hir7_3 (by kernel_rfl) (by kernel_rfl) (by kernel_rfl) ?hqr7_3 ?hyr7_3 (by assumption) ?restr7_3
            case hir7_3 => simp only [List.getElem?_toArray, List.getElem?_cons_succ, List.getElem?_cons_zero]; rfl
            case hqr7_3 => exact fun _ _ _ h => h
            case hyr7_3 => (refine Or.inl ⟨by rfl, ?_⟩; intro w hSw; (try dsimp only at hSw); go_simp; all_goals with_reducible rfl)
            try simp only [Act.put, List.setIfInBounds_toArray, List.set_cons_zero, List.set_cons_succ]
            refine wpAnyH_ready (rs := [4]) (by kernel_rfl) (by simp) ?_
            refine AllReadyH.cons (o := ?oq7_4) ?hoq7_4 (fun K hK => ?kq7_4) AllReadyH.nil
            case hoq7_4 => simp only [List.getElem?_toArray, List.getElem?_cons_succ, List.getElem?_cons_zero]; rfl
            go_simp
            have c := refMay_any wd v
            rw [HM.out] at c
            refine c.mono ?_
            rintro e w1 ⟨rfl, hb1⟩
            clear c
            have hb := hb.trans (hb1.mono hb.size)
            go_wp2_with fail
            refine hK.out _ _ ?_ (fun hHeld => ?_)
            · exact ⟨cell_below hb1 k0, cell_below hb1 k1, cell_below hb1 k2, cell_below hb1 kp, trivial⟩
            clear hK K
            try simp only [Act.put, List.setIfInBounds_toArray, List.set_cons_zero, List.set_cons_succ]
            refine wpAnyH_take (i := 5) (oi := ?oir8_5) (v := ?vr8_5) ?hir8_5 (by kernel_rfl) (by kernel_rfl) (by kernel_rfl) ?hqr8_5 ?hyr8_5 (by assumption) ?restr8_5
            case hir8_5 => simp only [List.getElem?_toArray, List.getElem?_cons_succ, List.getElem?_cons_zero]; rfl
            case hqr8_5 => exact fun _ _ _ h => h
            case hyr8_5 => (refine Or.inl ⟨by rfl, ?_⟩; intro w hSw; (try dsimp only at hSw); go_simp; all_goals with_reducible rfl)
            try simp only [Act.put, List.setIfInBounds_toArray, List.set_cons_zero, List.set_cons_succ]
            refine wpAnyH_take (i := 6) (oi := ?oir8_6) (v := ?vr8_6) ?hir8_6 (by kernel_rfl) (by kernel_rfl) (by kernel_rfl) ?hqr8_6 ?hyr8_6 (by assumption) ?restr8_6
            case hir8_6 => simp only [List.getElem?_toArray, List.getElem?_cons_succ, List.getElem?_cons_zero]; rfl
            case hqr8_6 => exact fun _ _ _ h => h
            case hyr8_6 => (refine Or.inl ⟨by rfl, ?_⟩; intro w hSw; (try dsimp only at hSw); go_simp; all_goals with_reducible rfl)
            try simp only [Act.put, List.setIfInBounds_toArray, List.set_cons_zero, List.set_cons_succ]
            refine wpAnyH_take (i := 7) (oi := ?oir8_7) (v := ?vr8_7) ?hir8_7 (by kernel_rfl) (by kernel_rfl) (by kernel_rfl) ?hqr8_7 ?hyr8_7 (by assumption) ?restr8_7
            case hir8_7 => simp only [List.getElem?_toArray, List.getElem?_cons_succ, List.getElem?_cons_zero]; rfl
            case hqr8_7 => exact fun _ _ _ h => h
            case hyr8_7 => (refine Or.inl ⟨by rfl, ?_⟩; intro w hSw; (try dsimp only at hSw); go_simp; all_goals with_reducible rfl)
            try simp only [Act.put, List.setIfInBounds_toArray, List.set_cons_zero, List.set_cons_succ]
            refine wpAnyH_take (i := 8) (oi := ?oir8_8) (v := ?vr8_8) ?hir8_8 (by kernel_rfl) (by kernel_rfl) (by kernel_rfl) ?hqr8_8 ?hyr8_8 (by assumption) ?restr8_8
            case hir8_8 => simp only [List.getElem?_toArray, List.getElem?_cons_succ, List.getElem?_cons_zero]; rfl
            case hqr8_8 => exact fun _ _ _ h => h
            case hyr8_8 => (refine Or.inl ⟨by rfl, ?_⟩; intro w hSw; (try dsimp only at hSw); go_simp; all_goals with_reducible rfl)
            try simp only [Act.put, List.setIfInBounds_toArray, List.set_cons_zero, List.set_cons_succ]
            refine wpAnyH_take (i := 9) (oi := ?oir8_9) (v := ?vr8_9) ?hir8_9 (by kernel_rfl) (by kernel_rfl) (by kernel_rfl) ?hqr8_9 ?hyr8_9 (by assumption) ?restr8_9
            case hir8_9 => simp only [List.getElem?_toArray, List.getElem?_cons_succ, List.getElem?_cons_zero]; rfl
            case hqr8_9 => exact fun _ _ _ h => h
            case hyr8_9 => (refine Or.inl ⟨by rfl, ?_⟩; intro w hSw; (try dsimp only at hSw); go_simp; all_goals with_reducible rfl)
            try simp only [Act.put, List.setIfInBounds_toArray, List.set_cons_zero, List.set_cons_succ]
            refine wpAnyH_take (i := 10) (oi := ?oir8_10) (v := ?vr8_10) ?hir8_10 (by kernel_rfl) (by kernel_rfl) (by kernel_rfl) ?hqr8_10 ?hyr8_10 (by assumption) ?restr8_10
            case hir8_10 => simp only [List.getElem?_toArray, List.getElem?_cons_succ, List.getElem?_cons_zero]; rfl
            case hqr8_10 => exact fun _ _ _ h => h
            case hyr8_10 => (refine Or.inl ⟨by rfl, ?_⟩; intro w hSw; (try dsimp only at hSw); go_simp; all_goals with_reducible rfl)
            try simp only [Act.put, List.setIfInBounds_toArray, List.set_cons_zero, List.set_cons_succ]
            refine wpAnyH_take (i := 11) (oi := ?oir8_11) (v := ?vr8_11) ?hir8_11 (by kernel_rfl) (by kernel_rfl) (by kernel_rfl) ?hqr8_11 ?hyr8_11 (by assumption) ?restr8_11
            case hir8_11 => simp only [List.getElem?_toArray, List.getElem?_cons_succ, List.getElem?_cons_zero]; rfl
            case hqr8_11 => exact fun _ _ _ h => h
            case hyr8_11 => (refine Or.inl ⟨by rfl, ?_⟩; intro w hSw; (try dsimp only at hSw); go_simp; all_goals with_reducible rfl)
            try simp only [Act.put, List.setIfInBounds_toArray, List.set_cons_zero, List.set_cons_succ]
            refine wpAnyH_take (i := 12) (oi := ?oir8_12) (v := ?vr8_12) ?hir8_12 (by kernel_rfl) (by kernel_rfl) (by kernel_rfl) ?hqr8_12 ?hyr8_12 (by assumption) ?restr8_12
            case hir8_12 => simp only [List.getElem?_toArray, List.getElem?_cons_succ, List.getElem?_cons_zero]; rfl
            case hqr8_12 => exact fun _ _ _ h => h
            case hyr8_12 => (refine Or.inl ⟨by rfl, ?_⟩; intro w hSw; (try dsimp only at hSw); go_simp; all_goals with_reducible rfl)
            try simp only [Act.put, List.setIfInBounds_toArray, List.set_cons_zero, List.set_cons_succ]
            refine wpAnyH_take (i := 13) (oi := ?oir8_13) (v := ?vr8_13) ?hir8_13 (by kernel_rfl) (by kernel_rfl) (by kernel_rfl) ?hqr8_13 ?hyr8_13 (by assumption) ?restr8_13
            case hir8_13 => simp only [List.getElem?_toArray, List.getElem?_cons_succ, List.getElem?_cons_zero]; rfl
            case hqr8_13 => exact fun _ _ _ h => h
            case hyr8_13 => (refine Or.inl ⟨by rfl, ?_⟩; intro w hSw; (try dsimp only at hSw); go_simp; all_goals with_reducible rfl)
            try simp only [Act.put, List.setIfInBounds_toArray, List.set_cons_zero, List.set_cons_succ]
            refine wpAnyH_take (i := 14) (oi := ?oir8_14) (v := ?vr8_14) ?hir8_14 (by kernel_rfl) (by kernel_rfl) (by kernel_rfl) ?hqr8_14 ?hyr8_14 (by assumption) ?restr8_14
            case hir8_14 => simp only [List.getElem?_toArray, List.getElem?_cons_succ, List.getElem?_cons_zero]; rfl
            case hqr8_14 => exact fun _ _ _ h => h
            case hyr8_14 => (refine Or.inl ⟨by rfl, ?_⟩; intro w hSw; (try dsimp only at hSw); go_simp; all_goals with_reducible rfl)
            try simp only [Act.put, List.setIfInBounds_toArray, List.set_cons_zero, List.set_cons_succ]
            refine wpAnyH_take (i := 15) (oi := ?oir8_15) (v := ?vr8_15) ?hir8_15 (by kernel_rfl) (by kernel_rfl) (by kernel_rfl) ?hqr8_15 ?hyr8_15 (by assumption) ?restr8_15
            case hir8_15 => simp only [List.getElem?_toArray, List.getElem?_cons_succ, List.getElem?_cons_zero]; rfl
            case hqr8_15 => exact fun _ _ _ h => h
            case hyr8_15 => (refine Or.inl ⟨by rfl, ?_⟩; intro w hSw; (try dsimp only at hSw); go_simp; all_goals with_reducible rfl)
            try simp only [Act.put, List.setIfInBounds_toArray, List.set_cons_zero, List.set_cons_succ]
            refine wpAnyH_take (i := 16) (oi := ?oir8_16) (v := ?vr8_16) ?hir8_16 (by kernel_rfl) (by kernel_rfl) (by kernel_rfl) ?hqr8_16 ?hyr8_16 (by assumption) ?restr8_16
            case hir8_16 => simp only [List.getElem?_toArray, List.getElem?_cons_succ, List.getElem?_cons_zero]; rfl
            case hqr8_16 => exact fun _ _ _ h => h
            case hyr8_16 => (refine Or.inl ⟨by rfl, ?_⟩; intro w hSw; (try dsimp only at hSw); go_simp; all_goals with_reducible rfl)
            try simp only [Act.put, List.setIfInBounds_toArray, List.set_cons_zero, List.set_cons_succ]
            refine wpAnyH_take (i := 17) (oi := ?oir8_17) (v := ?vr8_17) ?hir8_17 (by kernel_rfl) (by kernel_rfl) (by kernel_rfl) ?hqr8_17 ?hyr8_17 (by assumption) ?restr8_17
            case hir8_17 => simp only [List.getElem?_toArray, List.getElem?_cons_succ, List.getElem?_cons_zero]; rfl
            case hqr8_17 => exact fun _ _ _ h => h
            case hyr8_17 => (refine Or.inl ⟨by rfl, ?_⟩; intro w hSw; (try dsimp only at hSw); go_simp; all_goals with_reducible rfl)
            try simp only [Act.put, List.setIfInBounds_toArray, List.set_cons_zero, List.set_cons_succ]
            refine wpAnyH_take (i := 18) (oi := ?oir8_18) (v := ?vr8_18) ?hir8_18 (by kernel_rfl) (by kernel_rfl) (by kernel_rfl) ?hqr8_18 ?hyr8_18 (by assumption) ?restr8_18
            case hir8_18 => simp only [List.getElem?_toArray, List.getElem?_cons_succ, List.getElem?_cons_zero]; rfl
            case hqr8_18 => exact fun _ _ _ h => h
            case hyr8_18 => (refine Or.inl ⟨by rfl, ?_⟩; intro w hSw; (try dsimp only at hSw); go_simp; all_goals with_reducible rfl)
            try simp only [Act.put, List.setIfInBounds_toArray, List.set_cons_zero, List.set_cons_succ]
            refine wpAnyH_take (i := 19) (oi := ?oir8_19) (v := ?vr8_19) ?hir8_19 (by kernel_rfl) (by kernel_rfl) (by kernel_rfl) ?hqr8_19 ?hyr8_19 (by assumption) ?restr8_19
            case hir8_19 => simp only [List.getElem?_toArray, List.getElem?_cons_succ, List.getElem?_cons_zero]; rfl
            case hqr8_19 => exact fun _ _ _ h => h
            case hyr8_19 => (refine Or.inl ⟨by rfl, ?_⟩; intro w hSw; (try dsimp only at hSw); go_simp; all_goals with_reducible rfl)
            try simp only [Act.put, List.setIfInBounds_toArray, List.set_cons_zero, List.set_cons_succ]
            refine wpAnyH_take (i := 20) (oi := ?oir8_20) (v := ?vr8_20) ?hir8_20 (by kernel_rfl) (by kernel_rfl) (by kernel_rfl) ?hqr8_20 ?hyr8_20 (by assumption) ?restr8_20
            case hir8_20 => simp only [List.getElem?_toArray, List.getElem?_cons_succ, List.getElem?_cons_zero]; rfl
            case hqr8_20 => exact fun _ _ _ h => h
            case hyr8_20 => (refine Or.inl ⟨by rfl, ?_⟩; intro w hSw; (try dsimp only at hSw); go_simp; all_goals with_reducible rfl)
            try simp only [Act.put, List.setIfInBounds_toArray, List.set_cons_zero, List.set_cons_succ]
            refine wpAnyH_take (i := 21) (oi := ?oir8_21) (v := ?vr8_21) ?hir8_21 (by kernel_rfl) (by kernel_rfl) (by kernel_rfl) ?hqr8_21 ?hyr8_21 (by assumption) ?restr8_21
            case hir8_21 => simp only [List.getElem?_toArray, List.getElem?_cons_succ, List.getElem?_cons_zero]; rfl
            case hqr8_21 => exact fun _ _ _ h => h
            case hyr8_21 => (refine Or.inl ⟨by rfl, ?_⟩; intro w hSw; (try dsimp only at hSw); go_simp; all_goals with_reducible rfl)
            try simp only [Act.put, List.setIfInBounds_toArray, List.set_cons_zero, List.set_cons_succ]
            refine wpAnyH_take (i := 22) (oi := ?oir8_22) (v := ?vr8_22) ?hir8_22 (by kernel_rfl) (by kernel_rfl) (by kernel_rfl) ?hqr8_22 ?hyr8_22 (by assumption) ?restr8_22
            case hir8_22 => simp only [List.getElem?_toArray, List.getElem?_cons_succ, List.getElem?_cons_zero]; rfl
            case hqr8_22 => exact fun _ _ _ h => h
            case hyr8_22 => (refine Or.inl ⟨by rfl, ?_⟩; intro w hSw; (try dsimp only at hSw); go_simp; all_goals with_reducible rfl)
            try simp only [Act.put, List.setIfInBounds_toArray, List.set_cons_zero, List.set_cons_succ]
            refine wpAnyH_take (i := 23) (oi := ?oir8_23) (v := ?vr8_23) ?hir8_23 (by kernel_rfl) (by kernel_rfl) (by kernel_rfl) ?hqr8_23 ?hyr8_23 (by assumption) ?restr8_23
            case hir8_23 => simp only [List.getElem?_toArray, List.getElem?_cons_succ, List.getElem?_cons_zero]; rfl
            case hqr8_23 => exact fun _ _ _ h => h
            case hyr8_23 => (refine Or.inl ⟨by rfl, ?_⟩; intro w hSw; (try dsimp only at hSw); go_simp; all_goals with_reducible rfl)
            try simp only [Act.put, List.setIfInBounds_toArray, List.set_cons_zero, List.set_cons_succ]
            refine wpAnyH_done (by kernel_rfl) ?_ _
            clear hHeld
            go_wp2_with fail
            go_roundw
            case rel => exact ⟨j + 2, by omega, by go_num, hb, Lib.hid fun k hk => by
                          by_cases hki : k < j + 1
                          · exact hS.out k hki
                          · obtain rfl : k = j + 1 := by omega
                            exact HE.out⟩
            case measure => simp [intOf]; omega

set_option maxRecDepth 100000 in
set_option maxHeartbeats 4000000 in
theorem Check_any (w : World) {a : Option Addr} {n cap : Nat} {vs : List VQ} (h : RdV w a n cap vs) :
    Calls Try.prog 26 #[.slice a n cap] w fun e w' => e = .returned (.int .i64 (chkV vs)) ∧ Below w.heap.size w w' := by
  have hn := h.lt
  have HL := Lib.hid h.len
  obtain ⟨r, hr⟩ : ∃ r, r = chkV vs := ⟨_, rfl⟩
  rw [← hr]
  have HR := Lib.hid hr
  clear hr
  go_enter Try.func26, Try.ntmps26
  by_cases hbig : 64 < n
  case pos =>
    go_wp2_with fail
    go_ret
    exact ⟨by rw [HR.out, chk_many (by rw [HL.out]; exact hbig)]; rfl, Below.refl _ _⟩
  go_wp2_with fail
  go_loopw [10] (fun j wr => ∃ i, i ≤ n ∧ j = .int .i64 (i : Nat) ∧ Below w.heap.size w wr ∧ Hid (∀ k, k < i → okAt vs k = true)) (fun j _ => n - (intOf j).toNat)
  case atStart => exact ⟨0, Nat.zero_le _, rfl, Below.refl _ _, Lib.hid fun k hk => absurd hk (by omega)⟩
  case round =>
    rename_i wr _
    obtain ⟨i, hi, rfl, hb, hS⟩ := hrel
    have hrd := h.below hb
    by_cases hlt : i < n
    case neg =>
      obtain rfl : i = n := by omega
      have HE := Lib.hid (chk_all (vs := vs) (by rw [HL.out]; exact hbig) (fun k hk => hS.out k (by rw [← HL.out]; exact hk)))
      clear hrd
      go_wp2_with fail
      go_ret
      exact ⟨by rw [HR.out, HE.out]; rfl, hb⟩
    case pos =>
      obtain ⟨b, off, rfl, hc⟩ := hrd.addr (by omega)
      obtain ⟨k0, k1, k2⟩ := hc i hlt
      have hp : ∀ j, j < n → wr.cell? ⟨b, off + j * 3, none⟩ = some (.string (vth vs j).nm) := fun j hj => (hc j hj).1
      have HP := Lib.hid hp
      have hlw : ((i : Nat) : Int) < (n : Int) := by omega
      have hld : decide (((i : Nat) : Int) < (n : Int)) = true := decide_eq_true hlw
      clear hc hrd hp
      obtain ⟨v, hv⟩ : ∃ v, vth vs i = v := ⟨_, rfl⟩
      rw [hv] at k0 k1 k2
      have HV := Lib.hid hv
      clear hv
      obtain ⟨m, hm⟩ : ∃ m, mayV v = m := ⟨_, rfl⟩
      have HM := Lib.hid hm
      clear hm
      go_upto_region 6 with (refine wpList_store_new rfl 32 _ _ rfl atVot _ _ _ rfl rfl rfl rfl (vot_one v) ?_)
      have BA := below_al wr (.cells #[.string v.nm, .int .i64 v.pc, .int .u8 ((v.st : Nat) : Int)] 32)
      obtain ⟨u0, u1, u2⟩ := vot_cells wr v
      have hb := hb.trans (BA.mono hb.size)
      have HP := Lib.hid (fun j hj => cell_below BA (HP.out j hj))
      clear k0 k1 k2 BA
      generalize (wr.alloc (.cells #[.string v.nm, .int .i64 v.pc, .int .u8 ((v.st : Nat) : Int)] 32)) = wq at *
      cases m
      case false =>
        have HE : Hid (okAt vs i = false) := Lib.hid (by rw [okAt, HV.out, HM.out]; rfl)
        have D0 : Below wq.heap.size wq wq.drew := (Below.refl _ _).drew
        refine wp_region_held_drew (S := (fun w' => w'.cell? ⟨wr.heap.size, 0, none⟩ = some (.string v.nm) ∧ w'.cell? ⟨wr.heap.size, 1, none⟩ = some (.int .i64 v.pc) ∧ w'.cell? ⟨wr.heap.size, 2, none⟩ = some (.int .u8 ((v.st : Nat) : Int)) ∧ True)) (by kernel_rfl) ?_ (fun hHeld => ?_)
        · exact ⟨cell_below D0 u0, cell_below D0 u1, cell_below D0 u2, trivial⟩
        have hb := hb.trans (D0.mono hb.size)
        have u0 := cell_below D0 u0
        have u1 := cell_below D0 u1
        have u2 := cell_below D0 u2
        clear D0
        generalize wq.drew = wd at *
        refine wpAnyH_take (i := 0) (oi := ?oir9_0) (v := ?vr9_0) ?hir9_0 (by kernel_rfl) (by kernel_rfl) (by kernel_rfl) ?hqr9_0 ?hyr9_0 (by assumption) ?restr9_0
        case hir9_0 => simp only [List.getElem?_toArray, List.getElem?_cons_succ, List.getElem?_cons_zero]; rfl
        case hqr9_0 => exact fun _ _ _ h => h
        case hyr9_0 => (refine Or.inl ⟨by rfl, ?_⟩; intro w hSw; (try dsimp only at hSw); go_simp; all_goals with_reducible rfl)
        try simp only [Act.put, List.setIfInBounds_toArray, List.set_cons_zero, List.set_cons_succ]
        refine wpAnyH_ready (rs := [1]) (by kernel_rfl) (by simp) ?_
        refine AllReadyH.cons (o := ?oq9_1) ?hoq9_1 (fun K hK => ?kq9_1) AllReadyH.nil
        case hoq9_1 => simp only [List.getElem?_toArray, List.getElem?_cons_succ, List.getElem?_cons_zero]; rfl
        go_simp
        have c := may_any wd v
        rw [HM.out] at c
        refine c.mono ?_
        rintro e w1 ⟨rfl, hb1⟩
        clear c
        have hb := hb.trans (hb1.mono hb.size)
        go_wp2_with fail
        refine hK.out _ _ ?_ (fun hHeld => ?_)
        · exact ⟨cell_below hb1 u0, cell_below hb1 u1, cell_below hb1 u2, trivial⟩
        clear hK K
        try simp only [Act.put, List.setIfInBounds_toArray, List.set_cons_zero, List.set_cons_succ]
        refine wpAnyH_take (i := 2) (oi := ?oir10_2) (v := ?vr10_2) ?hir10_2 (by kernel_rfl) (by kernel_rfl) (by kernel_rfl) ?hqr10_2 ?hyr10_2 (by assumption) ?restr10_2
        case hir10_2 => simp only [List.getElem?_toArray, List.getElem?_cons_succ, List.getElem?_cons_zero]; rfl
        case hqr10_2 => exact fun _ _ _ h => h
        case hyr10_2 => (refine Or.inl ⟨by rfl, ?_⟩; intro w hSw; (try dsimp only at hSw); go_simp; all_goals with_reducible rfl)
        try simp only [Act.put, List.setIfInBounds_toArray, List.set_cons_zero, List.set_cons_succ]
        refine wpAnyH_take (i := 3) (oi := ?oir10_3) (v := ?vr10_3) ?hir10_3 (by kernel_rfl) (by kernel_rfl) (by kernel_rfl) ?hqr10_3 ?hyr10_3 (by assumption) ?restr10_3
        case hir10_3 => simp only [List.getElem?_toArray, List.getElem?_cons_succ, List.getElem?_cons_zero]; rfl
        case hqr10_3 => exact fun _ _ _ h => h
        case hyr10_3 => (refine Or.inl ⟨by rfl, ?_⟩; intro w hSw; (try dsimp only at hSw); go_simp; all_goals with_reducible rfl)
        try simp only [Act.put, List.setIfInBounds_toArray, List.set_cons_zero, List.set_cons_succ]
        refine wpAnyH_take (i := 4) (oi := ?oir10_4) (v := undef) ?hir10_4 (by kernel_rfl) (by kernel_rfl) (by kernel_rfl) ?hqr10_4 ?hyr10_4 (by assumption) ?restr10_4
        case hir10_4 => simp only [List.getElem?_toArray, List.getElem?_cons_succ, List.getElem?_cons_zero]; rfl
        case hqr10_4 => exact fun _ _ _ h => h
        case hyr10_4 => exact Or.inr ⟨by rfl, rfl⟩
        try simp only [Act.put, List.setIfInBounds_toArray, List.set_cons_zero, List.set_cons_succ]
        refine wpAnyH_take (i := 5) (oi := ?oir10_5) (v := undef) ?hir10_5 (by kernel_rfl) (by kernel_rfl) (by kernel_rfl) ?hqr10_5 ?hyr10_5 (by assumption) ?restr10_5
        case hir10_5 => simp only [List.getElem?_toArray, List.getElem?_cons_succ, List.getElem?_cons_zero]; rfl
        case hqr10_5 => exact fun _ _ _ h => h
        case hyr10_5 => exact Or.inr ⟨by rfl, rfl⟩
        try simp only [Act.put, List.setIfInBounds_toArray, List.set_cons_zero, List.set_cons_succ]
        refine wpAnyH_take (i := 6) (oi := ?oir10_6) (v := undef) ?hir10_6 (by kernel_rfl) (by kernel_rfl) (by kernel_rfl) ?hqr10_6 ?hyr10_6 (by assumption) ?restr10_6
        case hir10_6 => simp only [List.getElem?_toArray, List.getElem?_cons_succ, List.getElem?_cons_zero]; rfl
        case hqr10_6 => exact fun _ _ _ h => h
        case hyr10_6 => exact Or.inr ⟨by rfl, rfl⟩
        try simp only [Act.put, List.setIfInBounds_toArray, List.set_cons_zero, List.set_cons_succ]
        refine wpAnyH_take (i := 7) (oi := ?oir10_7) (v := undef) ?hir10_7 (by kernel_rfl) (by kernel_rfl) (by kernel_rfl) ?hqr10_7 ?hyr10_7 (by assumption) ?restr10_7
        case hir10_7 => simp only [List.getElem?_toArray, List.getElem?_cons_succ, List.getElem?_cons_zero]; rfl
        case hqr10_7 => exact fun _ _ _ h => h
        case hyr10_7 => exact Or.inr ⟨by rfl, rfl⟩
        try simp only [Act.put, List.setIfInBounds_toArray, List.set_cons_zero, List.set_cons_succ]
        refine wpAnyH_take (i := 8) (oi := ?oir10_8) (v := undef) ?hir10_8 (by kernel_rfl) (by kernel_rfl) (by kernel_rfl) ?hqr10_8 ?hyr10_8 (by assumption) ?restr10_8
        case hir10_8 => simp only [List.getElem?_toArray, List.getElem?_cons_succ, List.getElem?_cons_zero]; rfl
        case hqr10_8 => exact fun _ _ _ h => h
        case hyr10_8 => exact Or.inr ⟨by rfl, rfl⟩
        try simp only [Act.put, List.setIfInBounds_toArray, List.set_cons_zero, List.set_cons_succ]
        refine wpAnyH_take (i := 9) (oi := ?oir10_9) (v := undef) ?hir10_9 (by kernel_rfl) (by kernel_rfl) (by kernel_rfl) ?hqr10_9 ?hyr10_9 (by assumption) ?restr10_9
        case hir10_9 => simp only [List.getElem?_toArray, List.getElem?_cons_succ, List.getElem?_cons_zero]; rfl
        case hqr10_9 => exact fun _ _ _ h => h
        case hyr10_9 => exact Or.inr ⟨by rfl, rfl⟩
        try simp only [Act.put, List.setIfInBounds_toArray, List.set_cons_zero, List.set_cons_succ]
        refine wpAnyH_take (i := 10) (oi := ?oir10_10) (v := undef) ?hir10_10 (by kernel_rfl) (by kernel_rfl) (by kernel_rfl) ?hqr10_10 ?hyr10_10 (by assumption) ?restr10_10
        case hir10_10 => simp only [List.getElem?_toArray, List.getElem?_cons_succ, List.getElem?_cons_zero]; rfl
        case hqr10_10 => exact fun _ _ _ h => h
        case hyr10_10 => exact Or.inr ⟨by rfl, rfl⟩
        try simp only [Act.put, List.setIfInBounds_toArray, List.set_cons_zero, List.set_cons_succ]
        refine wpAnyH_take (i := 11) (oi := ?oir10_11) (v := undef) ?hir10_11 (by kernel_rfl) (by kernel_rfl) (by kernel_rfl) ?hqr10_11 ?hyr10_11 (by assumption) ?restr10_11
        case hir10_11 => simp only [List.getElem?_toArray, List.getElem?_cons_succ, List.getElem?_cons_zero]; rfl
        case hqr10_11 => exact fun _ _ _ h => h
        case hyr10_11 => exact Or.inr ⟨by rfl, rfl⟩
        try simp only [Act.put, List.setIfInBounds_toArray, List.set_cons_zero, List.set_cons_succ]
        refine wpAnyH_take (i := 12) (oi := ?oir10_12) (v := undef) ?hir10_12 (by kernel_rfl) (by kernel_rfl) (by kernel_rfl) ?hqr10_12 ?hyr10_12 (by assumption) ?restr10_12
        case hir10_12 => simp only [List.getElem?_toArray, List.getElem?_cons_succ, List.getElem?_cons_zero]; rfl
        case hqr10_12 => exact fun _ _ _ h => h
        case hyr10_12 => exact Or.inr ⟨by rfl, rfl⟩
        try simp only [Act.put, List.setIfInBounds_toArray, List.set_cons_zero, List.set_cons_succ]
        refine wpAnyH_take (i := 13) (oi := ?oir10_13) (v := undef) ?hir10_13 (by kernel_rfl) (by kernel_rfl) (by kernel_rfl) ?hqr10_13 ?hyr10_13 (by assumption) ?restr10_13
        case hir10_13 => simp only [List.getElem?_toArray, List.getElem?_cons_succ, List.getElem?_cons_zero]; rfl
        case hqr10_13 => exact fun _ _ _ h => h
        case hyr10_13 => exact Or.inr ⟨by rfl, rfl⟩
        try simp only [Act.put, List.setIfInBounds_toArray, List.set_cons_zero, List.set_cons_succ]
        refine wpAnyH_take (i := 14) (oi := ?oir10_14) (v := undef) ?hir10_14 (by kernel_rfl) (by kernel_rfl) (by kernel_rfl) ?hqr10_14 ?hyr10_14 (by assumption) ?restr10_14
        case hir10_14 => simp only [List.getElem?_toArray, List.getElem?_cons_succ, List.getElem?_cons_zero]; rfl
        case hqr10_14 => exact fun _ _ _ h => h
        case hyr10_14 => exact Or.inr ⟨by rfl, rfl⟩
        try simp only [Act.put, List.setIfInBounds_toArray, List.set_cons_zero, List.set_cons_succ]
        refine wpAnyH_take (i := 15) (oi := ?oir10_15) (v := undef) ?hir10_15 (by kernel_rfl) (by kernel_rfl) (by kernel_rfl) ?hqr10_15 ?hyr10_15 (by assumption) ?restr10_15
        case hir10_15 => simp only [List.getElem?_toArray, List.getElem?_cons_succ, List.getElem?_cons_zero]; rfl
        case hqr10_15 => exact fun _ _ _ h => h
        case hyr10_15 => exact Or.inr ⟨by rfl, rfl⟩
        try simp only [Act.put, List.setIfInBounds_toArray, List.set_cons_zero, List.set_cons_succ]
        refine wpAnyH_take (i := 16) (oi := ?oir10_16) (v := undef) ?hir10_16 (by kernel_rfl) (by kernel_rfl) (by kernel_rfl) ?hqr10_16 ?hyr10_16 (by assumption) ?restr10_16
        case hir10_16 => simp only [List.getElem?_toArray, List.getElem?_cons_succ, List.getElem?_cons_zero]; rfl
        case hqr10_16 => exact fun _ _ _ h => h
        case hyr10_16 => exact Or.inr ⟨by rfl, rfl⟩
        try simp only [Act.put, List.setIfInBounds_toArray, List.set_cons_zero, List.set_cons_succ]
        refine wpAnyH_take (i := 17) (oi := ?oir10_17) (v := ?vr10_17) ?hir10_17 (by kernel_rfl) (by kernel_rfl) (by kernel_rfl) ?hqr10_17 ?hyr10_17 (by assumption) ?restr10_17
        case hir10_17 => simp only [List.getElem?_toArray, List.getElem?_cons_succ, List.getElem?_cons_zero]; rfl
        case hqr10_17 => exact fun _ _ _ h => h
        case hyr10_17 => (refine Or.inl ⟨by rfl, ?_⟩; intro w hSw; (try dsimp only at hSw); go_simp; all_goals with_reducible rfl)
        try simp only [Act.put, List.setIfInBounds_toArray, List.set_cons_zero, List.set_cons_succ]
        refine wpAnyH_done (by kernel_rfl) ?_ _
        clear hHeld
        go_wp2_with fail
        go_ret
        exact ⟨by rw [HR.out, chk_bad (i := i) (by rw [HL.out]; exact hbig) (by rw [HL.out]; omega) HE.out]; rfl, hb⟩
      case true =>
        rcases i with _ | j
        case zero =>
          have HE : Hid (okAt vs 0 = true) := Lib.hid (by rw [okAt, HV.out, HM.out]; rfl)
          have D0 : Below wq.heap.size wq wq.drew := (Below.refl _ _).drew
          refine wp_region_held_drew (S := (fun w' => w'.cell? ⟨wr.heap.size, 0, none⟩ = some (.string v.nm) ∧ w'.cell? ⟨wr.heap.size, 1, none⟩ = some (.int .i64 v.pc) ∧ w'.cell? ⟨wr.heap.size, 2, none⟩ = some (.int .u8 ((v.st : Nat) : Int)) ∧ True)) (by kernel_rfl) ?_ (fun hHeld => ?_)
          · exact ⟨cell_below D0 u0, cell_below D0 u1, cell_below D0 u2, trivial⟩
          have hb := hb.trans (D0.mono hb.size)
          have u0 := cell_below D0 u0
          have u1 := cell_below D0 u1
          have u2 := cell_below D0 u2
          clear D0
          generalize wq.drew = wd at *
          refine wpAnyH_take (i := 0) (oi := ?oir11_0) (v := ?vr11_0) ?hir11_0 (by kernel_rfl) (by kernel_rfl) (by kernel_rfl) ?hqr11_0 ?hyr11_0 (by assumption) ?restr11_0
          case hir11_0 => simp only [List.getElem?_toArray, List.getElem?_cons_succ, List.getElem?_cons_zero]; rfl
          case hqr11_0 => exact fun _ _ _ h => h
          case hyr11_0 => (refine Or.inl ⟨by rfl, ?_⟩; intro w hSw; (try dsimp only at hSw); go_simp; all_goals with_reducible rfl)
          try simp only [Act.put, List.setIfInBounds_toArray, List.set_cons_zero, List.set_cons_succ]
          refine wpAnyH_ready (rs := [1]) (by kernel_rfl) (by simp) ?_
          refine AllReadyH.cons (o := ?oq11_1) ?hoq11_1 (fun K hK => ?kq11_1) AllReadyH.nil
          case hoq11_1 => simp only [List.getElem?_toArray, List.getElem?_cons_succ, List.getElem?_cons_zero]; rfl
          go_simp
          have c := may_any wd v
          rw [HM.out] at c
          refine c.mono ?_
          rintro e w1 ⟨rfl, hb1⟩
          clear c
          have hb := hb.trans (hb1.mono hb.size)
          go_wp2_with fail
          refine hK.out _ _ ?_ (fun hHeld => ?_)
          · exact ⟨cell_below hb1 u0, cell_below hb1 u1, cell_below hb1 u2, trivial⟩
          clear hK K
          try simp only [Act.put, List.setIfInBounds_toArray, List.set_cons_zero, List.set_cons_succ]
          refine wpAnyH_take (i := 2) (oi := ?oir12_2) (v := ?vr12_2) ?hir12_2 (by kernel_rfl) (by kernel_rfl) (by kernel_rfl) ?hqr12_2 ?hyr12_2 (by assumption) ?restr12_2
          case hir12_2 => simp only [List.getElem?_toArray, List.getElem?_cons_succ, List.getElem?_cons_zero]; rfl
          case hqr12_2 => exact fun _ _ _ h => h
          case hyr12_2 => (refine Or.inl ⟨by rfl, ?_⟩; intro w hSw; (try dsimp only at hSw); go_simp; all_goals with_reducible rfl)
          try simp only [Act.put, List.setIfInBounds_toArray, List.set_cons_zero, List.set_cons_succ]
          refine wpAnyH_take (i := 3) (oi := ?oir12_3) (v := ?vr12_3) ?hir12_3 (by kernel_rfl) (by kernel_rfl) (by kernel_rfl) ?hqr12_3 ?hyr12_3 (by assumption) ?restr12_3
          case hir12_3 => simp only [List.getElem?_toArray, List.getElem?_cons_succ, List.getElem?_cons_zero]; rfl
          case hqr12_3 => exact fun _ _ _ h => h
          case hyr12_3 => (refine Or.inl ⟨by rfl, ?_⟩; intro w hSw; (try dsimp only at hSw); go_simp; all_goals with_reducible rfl)
          try simp only [Act.put, List.setIfInBounds_toArray, List.set_cons_zero, List.set_cons_succ]
          refine wpAnyH_take (i := 4) (oi := ?oir12_4) (v := ?vr12_4) ?hir12_4 (by kernel_rfl) (by kernel_rfl) (by kernel_rfl) ?hqr12_4 ?hyr12_4 (by assumption) ?restr12_4
          case hir12_4 => simp only [List.getElem?_toArray, List.getElem?_cons_succ, List.getElem?_cons_zero]; rfl
          case hqr12_4 => exact fun _ _ _ h => h
          case hyr12_4 => (refine Or.inl ⟨by rfl, ?_⟩; intro w hSw; (try dsimp only at hSw); go_simp; all_goals with_reducible rfl)
          try simp only [Act.put, List.setIfInBounds_toArray, List.set_cons_zero, List.set_cons_succ]
          refine wpAnyH_take (i := 5) (oi := ?oir12_5) (v := ?vr12_5) ?hir12_5 (by kernel_rfl) (by kernel_rfl) (by kernel_rfl) ?hqr12_5 ?hyr12_5 (by assumption) ?restr12_5
          case hir12_5 => simp only [List.getElem?_toArray, List.getElem?_cons_succ, List.getElem?_cons_zero]; rfl
          case hqr12_5 => exact fun _ _ _ h => h
          case hyr12_5 => (refine Or.inl ⟨by rfl, ?_⟩; intro w hSw; (try dsimp only at hSw); go_simp; all_goals with_reducible rfl)
          try simp only [Act.put, List.setIfInBounds_toArray, List.set_cons_zero, List.set_cons_succ]
          refine wpAnyH_take (i := 6) (oi := ?oir12_6) (v := ?vr12_6) ?hir12_6 (by kernel_rfl) (by kernel_rfl) (by kernel_rfl) ?hqr12_6 ?hyr12_6 (by assumption) ?restr12_6
          case hir12_6 => simp only [List.getElem?_toArray, List.getElem?_cons_succ, List.getElem?_cons_zero]; rfl
          case hqr12_6 => exact fun _ _ _ h => h
          case hyr12_6 => (refine Or.inl ⟨by rfl, ?_⟩; intro w hSw; (try dsimp only at hSw); go_simp; all_goals with_reducible rfl)
          try simp only [Act.put, List.setIfInBounds_toArray, List.set_cons_zero, List.set_cons_succ]
          refine wpAnyH_take (i := 7) (oi := ?oir12_7) (v := undef) ?hir12_7 (by kernel_rfl) (by kernel_rfl) (by kernel_rfl) ?hqr12_7 ?hyr12_7 (by assumption) ?restr12_7
          case hir12_7 => simp only [List.getElem?_toArray, List.getElem?_cons_succ, List.getElem?_cons_zero]; rfl
          case hqr12_7 => exact fun _ _ _ h => h
          case hyr12_7 => exact Or.inr ⟨by rfl, rfl⟩
          try simp only [Act.put, List.setIfInBounds_toArray, List.set_cons_zero, List.set_cons_succ]
          refine wpAnyH_take (i := 8) (oi := ?oir12_8) (v := undef) ?hir12_8 (by kernel_rfl) (by kernel_rfl) (by kernel_rfl) ?hqr12_8 ?hyr12_8 (by assumption) ?restr12_8
          case hir12_8 => simp only [List.getElem?_toArray, List.getElem?_cons_succ, List.getElem?_cons_zero]; rfl
          case hqr12_8 => exact fun _ _ _ h => h
          case hyr12_8 => exact Or.inr ⟨by rfl, rfl⟩
          try simp only [Act.put, List.setIfInBounds_toArray, List.set_cons_zero, List.set_cons_succ]
          refine wpAnyH_take (i := 9) (oi := ?oir12_9) (v := undef) ?hir12_9 (by kernel_rfl) (by kernel_rfl) (by kernel_rfl) ?hqr12_9 ?hyr12_9 (by assumption) ?restr12_9
          case hir12_9 => simp only [List.getElem?_toArray, List.getElem?_cons_succ, List.getElem?_cons_zero]; rfl
          case hqr12_9 => exact fun _ _ _ h => h
          case hyr12_9 => exact Or.inr ⟨by rfl, rfl⟩
          try simp only [Act.put, List.setIfInBounds_toArray, List.set_cons_zero, List.set_cons_succ]
          refine wpAnyH_take (i := 10) (oi := ?oir12_10) (v := undef) ?hir12_10 (by kernel_rfl) (by kernel_rfl) (by kernel_rfl) ?hqr12_10 ?hyr12_10 (by assumption) ?restr12_10
          case hir12_10 => simp only [List.getElem?_toArray, List.getElem?_cons_succ, List.getElem?_cons_zero]; rfl
          case hqr12_10 => exact fun _ _ _ h => h
          case hyr12_10 => exact Or.inr ⟨by rfl, rfl⟩
          try simp only [Act.put, List.setIfInBounds_toArray, List.set_cons_zero, List.set_cons_succ]
          refine wpAnyH_take (i := 11) (oi := ?oir12_11) (v := undef) ?hir12_11 (by kernel_rfl) (by kernel_rfl) (by kernel_rfl) ?hqr12_11 ?hyr12_11 (by assumption) ?restr12_11
          case hir12_11 => simp only [List.getElem?_toArray, List.getElem?_cons_succ, List.getElem?_cons_zero]; rfl
          case hqr12_11 => exact fun _ _ _ h => h
          case hyr12_11 => exact Or.inr ⟨by rfl, rfl⟩
          try simp only [Act.put, List.setIfInBounds_toArray, List.set_cons_zero, List.set_cons_succ]
          refine wpAnyH_take (i := 12) (oi := ?oir12_12) (v := undef) ?hir12_12 (by kernel_rfl) (by kernel_rfl) (by kernel_rfl) ?hqr12_12 ?hyr12_12 (by assumption) ?restr12_12
          case hir12_12 => simp only [List.getElem?_toArray, List.getElem?_cons_succ, List.getElem?_cons_zero]; rfl
          case hqr12_12 => exact fun _ _ _ h => h
          case hyr12_12 => exact Or.inr ⟨by rfl, rfl⟩
          try simp only [Act.put, List.setIfInBounds_toArray, List.set_cons_zero, List.set_cons_succ]
          refine wpAnyH_take (i := 13) (oi := ?oir12_13) (v := undef) ?hir12_13 (by kernel_rfl) (by kernel_rfl) (by kernel_rfl) ?hqr12_13 ?hyr12_13 (by assumption) ?restr12_13
          case hir12_13 => simp only [List.getElem?_toArray, List.getElem?_cons_succ, List.getElem?_cons_zero]; rfl
          case hqr12_13 => exact fun _ _ _ h => h
          case hyr12_13 => exact Or.inr ⟨by rfl, rfl⟩
          try simp only [Act.put, List.setIfInBounds_toArray, List.set_cons_zero, List.set_cons_succ]
          refine wpAnyH_take (i := 14) (oi := ?oir12_14) (v := undef) ?hir12_14 (by kernel_rfl) (by kernel_rfl) (by kernel_rfl) ?hqr12_14 ?hyr12_14 (by assumption) ?restr12_14
          case hir12_14 => simp only [List.getElem?_toArray, List.getElem?_cons_succ, List.getElem?_cons_zero]; rfl
          case hqr12_14 => exact fun _ _ _ h => h
          case hyr12_14 => exact Or.inr ⟨by rfl, rfl⟩
          try simp only [Act.put, List.setIfInBounds_toArray, List.set_cons_zero, List.set_cons_succ]
          refine wpAnyH_take (i := 15) (oi := ?oir12_15) (v := undef) ?hir12_15 (by kernel_rfl) (by kernel_rfl) (by kernel_rfl) ?hqr12_15 ?hyr12_15 (by assumption) ?restr12_15
          case hir12_15 => simp only [List.getElem?_toArray, List.getElem?_cons_succ, List.getElem?_cons_zero]; rfl
          case hqr12_15 => exact fun _ _ _ h => h
          case hyr12_15 => exact Or.inr ⟨by rfl, rfl⟩
          try simp only [Act.put, List.setIfInBounds_toArray, List.set_cons_zero, List.set_cons_succ]
          refine wpAnyH_take (i := 16) (oi := ?oir12_16) (v := ?vr12_16) ?hir12_16 (by kernel_rfl) (by kernel_rfl) (by kernel_rfl) ?hqr12_16 ?hyr12_16 (by assumption) ?restr12_16
          case hir12_16 => simp only [List.getElem?_toArray, List.getElem?_cons_succ, List.getElem?_cons_zero]; rfl
          case hqr12_16 => exact fun _ _ _ h => h
          case hyr12_16 => (refine Or.inl ⟨by rfl, ?_⟩; intro w hSw; (try dsimp only at hSw); go_simp; all_goals with_reducible rfl)
          try simp only [Act.put, List.setIfInBounds_toArray, List.set_cons_zero, List.set_cons_succ]
          refine wpAnyH_take (i := 17) (oi := ?oir12_17) (v := ?vr12_17) ?hir12_17 (by kernel_rfl) (by kernel_rfl) (by kernel_rfl) ?hqr12_17 ?hyr12_17 (by assumption) ?restr12_17
          case hir12_17 => simp only [List.getElem?_toArray, List.getElem?_cons_succ, List.getElem?_cons_zero]; rfl
          case hqr12_17 => exact fun _ _ _ h => h
          case hyr12_17 => (refine Or.inl ⟨by rfl, ?_⟩; intro w hSw; (try dsimp only at hSw); go_simp; all_goals with_reducible rfl)
          try simp only [Act.put, List.setIfInBounds_toArray, List.set_cons_zero, List.set_cons_succ]
          refine wpAnyH_done (by kernel_rfl) ?_ _
          clear hHeld
          go_wp2_with fail
          go_roundw
          case rel => exact ⟨1, by omega, by go_num, hb, Lib.hid fun k hk => by
                        obtain rfl : k = 0 := by omega
                        exact HE.out⟩
          case measure => simp [intOf]; omega
        case succ =>
          have kp := HP.out j (by omega)
          obtain ⟨p, hp⟩ : ∃ p, vth vs j = p := ⟨_, rfl⟩
          rw [hp] at kp
          have HPP := Lib.hid hp
          clear hp
          have hjw : ((j : Nat) : Int) < (n : Int) := by omega
          have hjw1 : ((j : Nat) : Int) + 1 < (n : Int) := by omega
          have hjr : IntKind.i64.wrap ((j : Nat) : Int) = ((j : Nat) : Int) := wrap_in (by omega) (by omega)
          have hjw0 : (0 : Int) ≤ ((j : Nat) : Int) + 1 := by omega
          have HE : Hid (okAt vs (j + 1) = ltS p.nm v.nm) := Lib.hid (by rw [okAt, HV.out, HM.out, Nat.add_sub_cancel, HPP.out]; simp)
          have hcmp := leq_ltS v.nm p.nm
          cases hlts : ltS p.nm v.nm
          case false =>
            rw [hlts] at hcmp HE
            have D0 : Below wq.heap.size wq wq.drew := (Below.refl _ _).drew
            refine wp_region_held_drew (S := (fun w' => w'.cell? ⟨wr.heap.size, 0, none⟩ = some (.string v.nm) ∧ w'.cell? ⟨wr.heap.size, 1, none⟩ = some (.int .i64 v.pc) ∧ w'.cell? ⟨wr.heap.size, 2, none⟩ = some (.int .u8 ((v.st : Nat) : Int)) ∧ w'.cell? ⟨b, off + j * 3, none⟩ = some (.string p.nm) ∧ True)) (by kernel_rfl) ?_ (fun hHeld => ?_)
            · exact ⟨cell_below D0 u0, cell_below D0 u1, cell_below D0 u2, cell_below D0 kp, trivial⟩
            have hb := hb.trans (D0.mono hb.size)
            have u0 := cell_below D0 u0
            have u1 := cell_below D0 u1
            have u2 := cell_below D0 u2
            have kp := cell_below D0 kp
            clear D0
            generalize wq.drew = wd at *
            refine wpAnyH_take (i := 0) (oi := ?oir13_0) (v := ?vr13_0) ?hir13_0 (by kernel_rfl) (by kernel_rfl) (by kernel_rfl) ?hqr13_0 ?hyr13_0 (by assumption) ?restr13_0
            case hir13_0 => simp only [List.getElem?_toArray, List.getElem?_cons_succ, List.getElem?_cons_zero]; rfl
            case hqr13_0 => exact fun _ _ _ h => h
            case hyr13_0 => (refine Or.inl ⟨by rfl, ?_⟩; intro w hSw; (try dsimp only at hSw); go_simp; all_goals with_reducible rfl)
            try simp only [Act.put, List.setIfInBounds_toArray, List.set_cons_zero, List.set_cons_succ]
            refine wpAnyH_ready (rs := [1]) (by kernel_rfl) (by simp) ?_
            refine AllReadyH.cons (o := ?oq13_1) ?hoq13_1 (fun K hK => ?kq13_1) AllReadyH.nil
            case hoq13_1 => simp only [List.getElem?_toArray, List.getElem?_cons_succ, List.getElem?_cons_zero]; rfl
            go_simp
            have c := may_any wd v
            rw [HM.out] at c
            refine c.mono ?_
            rintro e w1 ⟨rfl, hb1⟩
            clear c
            have hb := hb.trans (hb1.mono hb.size)
            go_wp2_with fail
            refine hK.out _ _ ?_ (fun hHeld => ?_)
            · exact ⟨cell_below hb1 u0, cell_below hb1 u1, cell_below hb1 u2, cell_below hb1 kp, trivial⟩
            clear hK K
            try simp only [Act.put, List.setIfInBounds_toArray, List.set_cons_zero, List.set_cons_succ]
            refine wpAnyH_take (i := 2) (oi := ?oir14_2) (v := ?vr14_2) ?hir14_2 (by kernel_rfl) (by kernel_rfl) (by kernel_rfl) ?hqr14_2 ?hyr14_2 (by assumption) ?restr14_2
            case hir14_2 => simp only [List.getElem?_toArray, List.getElem?_cons_succ, List.getElem?_cons_zero]; rfl
            case hqr14_2 => exact fun _ _ _ h => h
            case hyr14_2 => (refine Or.inl ⟨by rfl, ?_⟩; intro w hSw; (try dsimp only at hSw); go_simp; all_goals with_reducible rfl)
            try simp only [Act.put, List.setIfInBounds_toArray, List.set_cons_zero, List.set_cons_succ]
            refine wpAnyH_take (i := 3) (oi := ?oir14_3) (v := ?vr14_3) ?hir14_3 (by kernel_rfl) (by kernel_rfl) (by kernel_rfl) ?hqr14_3 ?hyr14_3 (by assumption) ?restr14_3
            case hir14_3 => simp only [List.getElem?_toArray, List.getElem?_cons_succ, List.getElem?_cons_zero]; rfl
            case hqr14_3 => exact fun _ _ _ h => h
            case hyr14_3 => (refine Or.inl ⟨by rfl, ?_⟩; intro w hSw; (try dsimp only at hSw); go_simp; all_goals with_reducible rfl)
            try simp only [Act.put, List.setIfInBounds_toArray, List.set_cons_zero, List.set_cons_succ]
            refine wpAnyH_take (i := 4) (oi := ?oir14_4) (v := ?vr14_4) ?hir14_4 (by kernel_rfl) (by kernel_rfl) (by kernel_rfl) ?hqr14_4 ?hyr14_4 (by assumption) ?restr14_4
            case hir14_4 => simp only [List.getElem?_toArray, List.getElem?_cons_succ, List.getElem?_cons_zero]; rfl
            case hqr14_4 => exact fun _ _ _ h => h
            case hyr14_4 => (refine Or.inl ⟨by rfl, ?_⟩; intro w hSw; (try dsimp only at hSw); go_simp; all_goals with_reducible rfl)
            try simp only [Act.put, List.setIfInBounds_toArray, List.set_cons_zero, List.set_cons_succ]
            refine wpAnyH_take (i := 5) (oi := ?oir14_5) (v := ?vr14_5) ?hir14_5 (by kernel_rfl) (by kernel_rfl) (by kernel_rfl) ?hqr14_5 ?hyr14_5 (by assumption) ?restr14_5
            case hir14_5 => simp only [List.getElem?_toArray, List.getElem?_cons_succ, List.getElem?_cons_zero]; rfl
            case hqr14_5 => exact fun _ _ _ h => h
            case hyr14_5 => (refine Or.inl ⟨by rfl, ?_⟩; intro w hSw; (try dsimp only at hSw); go_simp; all_goals with_reducible rfl)
            try simp only [Act.put, List.setIfInBounds_toArray, List.set_cons_zero, List.set_cons_succ]
            refine wpAnyH_take (i := 6) (oi := ?oir14_6) (v := ?vr14_6) ?hir14_6 (by kernel_rfl) (by kernel_rfl) (by kernel_rfl) ?hqr14_6 ?hyr14_6 (by assumption) ?restr14_6
            case hir14_6 => simp only [List.getElem?_toArray, List.getElem?_cons_succ, List.getElem?_cons_zero]; rfl
            case hqr14_6 => exact fun _ _ _ h => h
            case hyr14_6 => (refine Or.inl ⟨by rfl, ?_⟩; intro w hSw; (try dsimp only at hSw); go_simp; all_goals with_reducible rfl)
            try simp only [Act.put, List.setIfInBounds_toArray, List.set_cons_zero, List.set_cons_succ]
            refine wpAnyH_take (i := 7) (oi := ?oir14_7) (v := ?vr14_7) ?hir14_7 (by kernel_rfl) (by kernel_rfl) (by kernel_rfl) ?hqr14_7 ?hyr14_7 (by assumption) ?restr14_7
            case hir14_7 => simp only [List.getElem?_toArray, List.getElem?_cons_succ, List.getElem?_cons_zero]; rfl
            case hqr14_7 => exact fun _ _ _ h => h
            case hyr14_7 => (refine Or.inl ⟨by rfl, ?_⟩; intro w hSw; (try dsimp only at hSw); go_simp; all_goals with_reducible rfl)
            try simp only [Act.put, List.setIfInBounds_toArray, List.set_cons_zero, List.set_cons_succ]
            refine wpAnyH_take (i := 8) (oi := ?oir14_8) (v := ?vr14_8) ?hir14_8 (by kernel_rfl) (by kernel_rfl) (by kernel_rfl) ?hqr14_8 ?hyr14_8 (by assumption) ?restr14_8
            case hir14_8 => simp only [List.getElem?_toArray, List.getElem?_cons_succ, List.getElem?_cons_zero]; rfl
            case hqr14_8 => exact fun _ _ _ h => h
            case hyr14_8 => (refine Or.inl ⟨by rfl, ?_⟩; intro w hSw; (try dsimp only at hSw); go_simp; all_goals with_reducible rfl)
            try simp only [Act.put, List.setIfInBounds_toArray, List.set_cons_zero, List.set_cons_succ]
            refine wpAnyH_take (i := 9) (oi := ?oir14_9) (v := ?vr14_9) ?hir14_9 (by kernel_rfl) (by kernel_rfl) (by kernel_rfl) ?hqr14_9 ?hyr14_9 (by assumption) ?restr14_9
            case hir14_9 => simp only [List.getElem?_toArray, List.getElem?_cons_succ, List.getElem?_cons_zero]; rfl
            case hqr14_9 => exact fun _ _ _ h => h
            case hyr14_9 => (refine Or.inl ⟨by rfl, ?_⟩; intro w hSw; (try dsimp only at hSw); go_simp; all_goals with_reducible rfl)
            try simp only [Act.put, List.setIfInBounds_toArray, List.set_cons_zero, List.set_cons_succ]
            refine wpAnyH_take (i := 10) (oi := ?oir14_10) (v := ?vr14_10) ?hir14_10 (by kernel_rfl) (by kernel_rfl) (by kernel_rfl) ?hqr14_10 ?hyr14_10 (by assumption) ?restr14_10
            case hir14_10 => simp only [List.getElem?_toArray, List.getElem?_cons_succ, List.getElem?_cons_zero]; rfl
            case hqr14_10 => exact fun _ _ _ h => h
            case hyr14_10 => (refine Or.inl ⟨by rfl, ?_⟩; intro w hSw; (try dsimp only at hSw); go_simp; all_goals with_reducible rfl)
            try simp only [Act.put, List.setIfInBounds_toArray, List.set_cons_zero, List.set_cons_succ]
            refine wpAnyH_take (i := 11) (oi := ?oir14_11) (v := ?vr14_11) ?hir14_11 (by kernel_rfl) (by kernel_rfl) (by kernel_rfl) ?hqr14_11 ?hyr14_11 (by assumption) ?restr14_11
            case hir14_11 => simp only [List.getElem?_toArray, List.getElem?_cons_succ, List.getElem?_cons_zero]; rfl
            case hqr14_11 => exact fun _ _ _ h => h
            case hyr14_11 => (refine Or.inl ⟨by rfl, ?_⟩; intro w hSw; (try dsimp only at hSw); go_simp; all_goals with_reducible rfl)
            try simp only [Act.put, List.setIfInBounds_toArray, List.set_cons_zero, List.set_cons_succ]
            refine wpAnyH_take (i := 12) (oi := ?oir14_12) (v := ?vr14_12) ?hir14_12 (by kernel_rfl) (by kernel_rfl) (by kernel_rfl) ?hqr14_12 ?hyr14_12 (by assumption) ?restr14_12
            case hir14_12 => simp only [List.getElem?_toArray, List.getElem?_cons_succ, List.getElem?_cons_zero]; rfl
            case hqr14_12 => exact fun _ _ _ h => h
            case hyr14_12 => (refine Or.inl ⟨by rfl, ?_⟩; intro w hSw; (try dsimp only at hSw); go_simp; all_goals with_reducible rfl)
            try simp only [Act.put, List.setIfInBounds_toArray, List.set_cons_zero, List.set_cons_succ]
            refine wpAnyH_take (i := 13) (oi := ?oir14_13) (v := ?vr14_13) ?hir14_13 (by kernel_rfl) (by kernel_rfl) (by kernel_rfl) ?hqr14_13 ?hyr14_13 (by assumption) ?restr14_13
            case hir14_13 => simp only [List.getElem?_toArray, List.getElem?_cons_succ, List.getElem?_cons_zero]; rfl
            case hqr14_13 => exact fun _ _ _ h => h
            case hyr14_13 => (refine Or.inl ⟨by rfl, ?_⟩; intro w hSw; (try dsimp only at hSw); go_simp; all_goals with_reducible rfl)
            try simp only [Act.put, List.setIfInBounds_toArray, List.set_cons_zero, List.set_cons_succ]
            refine wpAnyH_take (i := 14) (oi := ?oir14_14) (v := ?vr14_14) ?hir14_14 (by kernel_rfl) (by kernel_rfl) (by kernel_rfl) ?hqr14_14 ?hyr14_14 (by assumption) ?restr14_14
            case hir14_14 => simp only [List.getElem?_toArray, List.getElem?_cons_succ, List.getElem?_cons_zero]; rfl
            case hqr14_14 => exact fun _ _ _ h => h
            case hyr14_14 => (refine Or.inl ⟨by rfl, ?_⟩; intro w hSw; (try dsimp only at hSw); go_simp; all_goals with_reducible rfl)
            try simp only [Act.put, List.setIfInBounds_toArray, List.set_cons_zero, List.set_cons_succ]
            refine wpAnyH_take (i := 15) (oi := ?oir14_15) (v := ?vr14_15) ?hir14_15 (by kernel_rfl) (by kernel_rfl) (by kernel_rfl) ?hqr14_15 ?hyr14_15 (by assumption) ?restr14_15
            case hir14_15 => simp only [List.getElem?_toArray, List.getElem?_cons_succ, List.getElem?_cons_zero]; rfl
            case hqr14_15 => exact fun _ _ _ h => h
            case hyr14_15 => (refine Or.inl ⟨by rfl, ?_⟩; intro w hSw; (try dsimp only at hSw); go_simp; all_goals with_reducible rfl)
            try simp only [Act.put, List.setIfInBounds_toArray, List.set_cons_zero, List.set_cons_succ]
            refine wpAnyH_take (i := 16) (oi := ?oir14_16) (v := ?vr14_16) ?hir14_16 (by kernel_rfl) (by kernel_rfl) (by kernel_rfl) ?hqr14_16 ?hyr14_16 (by assumption) ?restr14_16
            case hir14_16 => simp only [List.getElem?_toArray, List.getElem?_cons_succ, List.getElem?_cons_zero]; rfl
            case hqr14_16 => exact fun _ _ _ h => h
            case hyr14_16 => (refine Or.inl ⟨by rfl, ?_⟩; intro w hSw; (try dsimp only at hSw); go_simp; all_goals with_reducible rfl)
            try simp only [Act.put, List.setIfInBounds_toArray, List.set_cons_zero, List.set_cons_succ]
            refine wpAnyH_take (i := 17) (oi := ?oir14_17) (v := ?vr14_17) ?hir14_17 (by kernel_rfl) (by kernel_rfl) (by kernel_rfl) ?hqr14_17 ?hyr14_17 (by assumption) ?restr14_17
            case hir14_17 => simp only [List.getElem?_toArray, List.getElem?_cons_succ, List.getElem?_cons_zero]; rfl
            case hqr14_17 => exact fun _ _ _ h => h
            case hyr14_17 => (refine Or.inl ⟨by rfl, ?_⟩; intro w hSw; (try dsimp only at hSw); go_simp; all_goals with_reducible rfl)
            try simp only [Act.put, List.setIfInBounds_toArray, List.set_cons_zero, List.set_cons_succ]
            refine wpAnyH_done (by kernel_rfl) ?_ _
            clear hHeld
            go_wp2_with fail
            go_ret
            exact ⟨by rw [HR.out, chk_bad (i := (j + 1)) (by rw [HL.out]; exact hbig) (by rw [HL.out]; omega) HE.out]; rfl, hb⟩
          case true =>
            rw [hlts] at hcmp HE
            have D0 : Below wq.heap.size wq wq.drew := (Below.refl _ _).drew
            refine wp_region_held_drew (S := (fun w' => w'.cell? ⟨wr.heap.size, 0, none⟩ = some (.string v.nm) ∧ w'.cell? ⟨wr.heap.size, 1, none⟩ = some (.int .i64 v.pc) ∧ w'.cell? ⟨wr.heap.size, 2, none⟩ = some (.int .u8 ((v.st : Nat) : Int)) ∧ w'.cell? ⟨b, off + j * 3, none⟩ = some (.string p.nm) ∧ True)) (by kernel_rfl) ?_ (fun hHeld => ?_)
            · exact ⟨cell_below D0 u0, cell_below D0 u1, cell_below D0 u2, cell_below D0 kp, trivial⟩
            have hb := hb.trans (D0.mono hb.size)
            have u0 := cell_below D0 u0
            have u1 := cell_below D0 u1
            have u2 := cell_below D0 u2
            have kp := cell_below D0 kp
            clear D0
            generalize wq.drew = wd at *
            refine wpAnyH_take (i := 0) (oi := ?oir15_0) (v := ?vr15_0) ?hir15_0 (by kernel_rfl) (by kernel_rfl) (by kernel_rfl) ?hqr15_0 ?hyr15_0 (by assumption) ?restr15_0
            case hir15_0 => simp only [List.getElem?_toArray, List.getElem?_cons_succ, List.getElem?_cons_zero]; rfl
            case hqr15_0 => exact fun _ _ _ h => h
            case hyr15_0 => (refine Or.inl ⟨by rfl, ?_⟩; intro w hSw; (try dsimp only at hSw); go_simp; all_goals with_reducible rfl)
            try simp only [Act.put, List.setIfInBounds_toArray, List.set_cons_zero, List.set_cons_succ]
            refine wpAnyH_ready (rs := [1]) (by kernel_rfl) (by simp) ?_
            refine AllReadyH.cons (o := ?oq15_1) ?hoq15_1 (fun K hK => ?kq15_1) AllReadyH.nil
            case hoq15_1 => simp only [List.getElem?_toArray, List.getElem?_cons_succ, List.getElem?_cons_zero]; rfl
            go_simp
            have c := may_any wd v
            rw [HM.out] at c
            refine c.mono ?_
            rintro e w1 ⟨rfl, hb1⟩
            clear c
            have hb := hb.trans (hb1.mono hb.size)
            go_wp2_with fail
            refine hK.out _ _ ?_ (fun hHeld => ?_)
            · exact ⟨cell_below hb1 u0, cell_below hb1 u1, cell_below hb1 u2, cell_below hb1 kp, trivial⟩
            clear hK K
            try simp only [Act.put, List.setIfInBounds_toArray, List.set_cons_zero, List.set_cons_succ]
            refine wpAnyH_take (i := 2) (oi := ?oir16_2) (v := ?vr16_2) ?hir16_2 (by kernel_rfl) (by kernel_rfl) (by kernel_rfl) ?hqr16_2 ?hyr16_2 (by assumption) ?restr16_2
            case hir16_2 => simp only [List.getElem?_toArray, List.getElem?_cons_succ, List.getElem?_cons_zero]; rfl
            case hqr16_2 => exact fun _ _ _ h => h
            case hyr16_2 => (refine Or.inl ⟨by rfl, ?_⟩; intro w hSw; (try dsimp only at hSw); go_simp; all_goals with_reducible rfl)
            try simp only [Act.put, List.setIfInBounds_toArray, List.set_cons_zero, List.set_cons_succ]
            refine wpAnyH_take (i := 3) (oi := ?oir16_3) (v := ?vr16_3) ?hir16_3 (by kernel_rfl) (by kernel_rfl) (by kernel_rfl) ?hqr16_3 ?hyr16_3 (by assumption) ?restr16_3
            case hir16_3 => simp only [List.getElem?_toArray, List.getElem?_cons_succ, List.getElem?_cons_zero]; rfl
            case hqr16_3 => exact fun _ _ _ h => h
            case hyr16_3 => (refine Or.inl ⟨by rfl, ?_⟩; intro w hSw; (try dsimp only at hSw); go_simp; all_goals with_reducible rfl)
            try simp only [Act.put, List.setIfInBounds_toArray, List.set_cons_zero, List.set_cons_succ]
            refine wpAnyH_take (i := 4) (oi := ?oir16_4) (v := ?vr16_4) ?hir16_4 (by kernel_rfl) (by kernel_rfl) (by kernel_rfl) ?hqr16_4 ?hyr16_4 (by assumption) ?restr16_4
            case hir16_4 => simp only [List.getElem?_toArray, List.getElem?_cons_succ, List.getElem?_cons_zero]; rfl
            case hqr16_4 => exact fun _ _ _ h => h
            case hyr16_4 => (refine Or.inl ⟨by rfl, ?_⟩; intro w hSw; (try dsimp only at hSw); go_simp; all_goals with_reducible rfl)
            try simp only [Act.put, List.setIfInBounds_toArray, List.set_cons_zero, List.set_cons_succ]
            refine wpAnyH_take (i := 5) (oi := ?oir16_5) (v := ?vr16_5) ?hir16_5 (by kernel_rfl) (by kernel_rfl) (by kernel_rfl) ?hqr16_5 ?hyr16_5 (by assumption) ?restr16_5
            case hir16_5 => simp only [List.getElem?_toArray, List.getElem?_cons_succ, List.getElem?_cons_zero]; rfl
            case hqr16_5 => exact fun _ _ _ h => h
            case hyr16_5 => (refine Or.inl ⟨by rfl, ?_⟩; intro w hSw; (try dsimp only at hSw); go_simp; all_goals with_reducible rfl)
            try simp only [Act.put, List.setIfInBounds_toArray, List.set_cons_zero, List.set_cons_succ]
            refine wpAnyH_take (i := 6) (oi := ?oir16_6) (v := ?vr16_6) ?hir16_6 (by kernel_rfl) (by kernel_rfl) (by kernel_rfl) ?hqr16_6 ?hyr16_6 (by assumption) ?restr16_6
            case hir16_6 => simp only [List.getElem?_toArray, List.getElem?_cons_succ, List.getElem?_cons_zero]; rfl
            case hqr16_6 => exact fun _ _ _ h => h
            case hyr16_6 => (refine Or.inl ⟨by rfl, ?_⟩; intro w hSw; (try dsimp only at hSw); go_simp; all_goals with_reducible rfl)
            try simp only [Act.put, List.setIfInBounds_toArray, List.set_cons_zero, List.set_cons_succ]
            refine wpAnyH_take (i := 7) (oi := ?oir16_7) (v := ?vr16_7) ?hir16_7 (by kernel_rfl) (by kernel_rfl) (by kernel_rfl) ?hqr16_7 ?hyr16_7 (by assumption) ?restr16_7
            case hir16_7 => simp only [List.getElem?_toArray, List.getElem?_cons_succ, List.getElem?_cons_zero]; rfl
            case hqr16_7 => exact fun _ _ _ h => h
            case hyr16_7 => (refine Or.inl ⟨by rfl, ?_⟩; intro w hSw; (try dsimp only at hSw); go_simp; all_goals with_reducible rfl)
            try simp only [Act.put, List.setIfInBounds_toArray, List.set_cons_zero, List.set_cons_succ]
            refine wpAnyH_take (i := 8) (oi := ?oir16_8) (v := ?vr16_8) ?hir16_8 (by kernel_rfl) (by kernel_rfl) (by kernel_rfl) ?hqr16_8 ?hyr16_8 (by assumption) ?restr16_8
            case hir16_8 => simp only [List.getElem?_toArray, List.getElem?_cons_succ, List.getElem?_cons_zero]; rfl
            case hqr16_8 => exact fun _ _ _ h => h
            case hyr16_8 => (refine Or.inl ⟨by rfl, ?_⟩; intro w hSw; (try dsimp only at hSw); go_simp; all_goals with_reducible rfl)
            try simp only [Act.put, List.setIfInBounds_toArray, List.set_cons_zero, List.set_cons_succ]
            refine wpAnyH_take (i := 9) (oi := ?oir16_9) (v := ?vr16_9) ?hir16_9 (by kernel_rfl) (by kernel_rfl) (by kernel_rfl) ?hqr16_9 ?hyr16_9 (by assumption) ?restr16_9
            case hir16_9 => simp only [List.getElem?_toArray, List.getElem?_cons_succ, List.getElem?_cons_zero]; rfl
            case hqr16_9 => exact fun _ _ _ h => h
            case hyr16_9 => (refine Or.inl ⟨by rfl, ?_⟩; intro w hSw; (try dsimp only at hSw); go_simp; all_goals with_reducible rfl)
            try simp only [Act.put, List.setIfInBounds_toArray, List.set_cons_zero, List.set_cons_succ]
            refine wpAnyH_take (i := 10) (oi := ?oir16_10) (v := ?vr16_10) ?hir16_10 (by kernel_rfl) (by kernel_rfl) (by kernel_rfl) ?hqr16_10 ?hyr16_10 (by assumption) ?restr16_10
            case hir16_10 => simp only [List.getElem?_toArray, List.getElem?_cons_succ, List.getElem?_cons_zero]; rfl
            case hqr16_10 => exact fun _ _ _ h => h
            case hyr16_10 => (refine Or.inl ⟨by rfl, ?_⟩; intro w hSw; (try dsimp only at hSw); go_simp; all_goals with_reducible rfl)
            try simp only [Act.put, List.setIfInBounds_toArray, List.set_cons_zero, List.set_cons_succ]
            refine wpAnyH_take (i := 11) (oi := ?oir16_11) (v := ?vr16_11) ?hir16_11 (by kernel_rfl) (by kernel_rfl) (by kernel_rfl) ?hqr16_11 ?hyr16_11 (by assumption) ?restr16_11
            case hir16_11 => simp only [List.getElem?_toArray, List.getElem?_cons_succ, List.getElem?_cons_zero]; rfl
            case hqr16_11 => exact fun _ _ _ h => h
            case hyr16_11 => (refine Or.inl ⟨by rfl, ?_⟩; intro w hSw; (try dsimp only at hSw); go_simp; all_goals with_reducible rfl)
            try simp only [Act.put, List.setIfInBounds_toArray, List.set_cons_zero, List.set_cons_succ]
            refine wpAnyH_take (i := 12) (oi := ?oir16_12) (v := ?vr16_12) ?hir16_12 (by kernel_rfl) (by kernel_rfl) (by kernel_rfl) ?hqr16_12 ?hyr16_12 (by assumption) ?restr16_12
            case hir16_12 => simp only [List.getElem?_toArray, List.getElem?_cons_succ, List.getElem?_cons_zero]; rfl
            case hqr16_12 => exact fun _ _ _ h => h
            case hyr16_12 => (refine Or.inl ⟨by rfl, ?_⟩; intro w hSw; (try dsimp only at hSw); go_simp; all_goals with_reducible rfl)
            try simp only [Act.put, List.setIfInBounds_toArray, List.set_cons_zero, List.set_cons_succ]
            refine wpAnyH_take (i := 13) (oi := ?oir16_13) (v := ?vr16_13) ?hir16_13 (by kernel_rfl) (by kernel_rfl) (by kernel_rfl) ?hqr16_13 ?hyr16_13 (by assumption) ?restr16_13
            case hir16_13 => simp only [List.getElem?_toArray, List.getElem?_cons_succ, List.getElem?_cons_zero]; rfl
            case hqr16_13 => exact fun _ _ _ h => h
            case hyr16_13 => (refine Or.inl ⟨by rfl, ?_⟩; intro w hSw; (try dsimp only at hSw); go_simp; all_goals with_reducible rfl)
            try simp only [Act.put, List.setIfInBounds_toArray, List.set_cons_zero, List.set_cons_succ]
            refine wpAnyH_take (i := 14) (oi := ?oir16_14) (v := ?vr16_14) ?hir16_14 (by kernel_rfl) (by kernel_rfl) (by kernel_rfl) ?hqr16_14 ?hyr16_14 (by assumption) ?restr16_14
            case hir16_14 => simp only [List.getElem?_toArray, List.getElem?_cons_succ, List.getElem?_cons_zero]; rfl
            case hqr16_14 => exact fun _ _ _ h => h
            case hyr16_14 => (refine Or.inl ⟨by rfl, ?_⟩; intro w hSw; (try dsimp only at hSw); go_simp; all_goals with_reducible rfl)
            try simp only [Act.put, List.setIfInBounds_toArray, List.set_cons_zero, List.set_cons_succ]
            refine wpAnyH_take (i := 15) (oi := ?oir16_15) (v := ?vr16_15) ?hir16_15 (by kernel_rfl) (by kernel_rfl) (by kernel_rfl) ?hqr16_15 ?hyr16_15 (by assumption) ?restr16_15
            case hir16_15 => simp only [List.getElem?_toArray, List.getElem?_cons_succ, List.getElem?_cons_zero]; rfl
            case hqr16_15 => exact fun _ _ _ h => h
            case hyr16_15 => (refine Or.inl ⟨by rfl, ?_⟩; intro w hSw; (try dsimp only at hSw); go_simp; all_goals with_reducible rfl)
            try simp only [Act.put, List.setIfInBounds_toArray, List.set_cons_zero, List.set_cons_succ]
            refine wpAnyH_take (i := 16) (oi := ?oir16_16) (v := ?vr16_16) ?hir16_16 (by kernel_rfl) (by kernel_rfl) (by kernel_rfl) ?hqr16_16 ?hyr16_16 (by assumption) ?restr16_16
            case hir16_16 => simp only [List.getElem?_toArray, List.getElem?_cons_succ, List.getElem?_cons_zero]; rfl
            case hqr16_16 => exact fun _ _ _ h => h
            case hyr16_16 => (refine Or.inl ⟨by rfl, ?_⟩; intro w hSw; (try dsimp only at hSw); go_simp; all_goals with_reducible rfl)
            try simp only [Act.put, List.setIfInBounds_toArray, List.set_cons_zero, List.set_cons_succ]
            refine wpAnyH_take (i := 17) (oi := ?oir16_17) (v := ?vr16_17) ?hir16_17 (by kernel_rfl) (by kernel_rfl) (by kernel_rfl) ?hqr16_17 ?hyr16_17 (by assumption) ?restr16_17
            case hir16_17 => simp only [List.getElem?_toArray, List.getElem?_cons_succ, List.getElem?_cons_zero]; rfl
            case hqr16_17 => exact fun _ _ _ h => h
            case hyr16_17 => (refine Or.inl ⟨by rfl, ?_⟩; intro w hSw; (try dsimp only at hSw); go_simp; all_goals with_reducible rfl)
            try simp only [Act.put, List.setIfInBounds_toArray, List.set_cons_zero, List.set_cons_succ]
            refine wpAnyH_done (by kernel_rfl) ?_ _
            clear hHeld
            go_wp2_with fail
            go_roundw
            case rel => exact ⟨j + 2, by omega, by go_num, hb, Lib.hid fun k hk => by
                          by_cases hki : k < j + 1
                          · exact hS.out k hki
                          · obtain rfl : k = j + 1 := by omega
                            exact HE.out⟩
            case measure => simp [intOf]; omega

end Go.Proofs.Ytnjkfjecnicccaa
