/- The walk of the law RollOnce: it returns true and turns nothing that was there. No condition. Printed by gen_rollaws.py. -/
import Derived.Test.YtnjkfjecnicccaaRolY
import Derived.BigQuiet
import Derived.Test.YtnjkfjecnicccaaRolN
import Derived.Test.YtnjkfjecnicccaaMem
import Derived.Deep.CutRange
namespace Go.Proofs.Ytnjkfjecnicccaa
open Go.RowKit Go.Suf
set_option linter.unusedVariables false
set_option linter.unusedSimpArgs false

set_option maxRecDepth 100000 in
set_option maxHeartbeats 8000000 in
theorem rollOnce_walk (w : World) {a_l : Option Addr} {n_l c_l : Nat} {vs : List VQ} (h_l : RdV w a_l n_l c_l vs) {a_q : Option Addr} {n_q c_q : Nat} {xs_q : List Nat} (h_q : Rd .u8 w a_q n_q c_q xs_q) {a_h : Option Addr} {n_h c_h : Nat} {xs_h : List Nat} (h_h : Rd .u8 w a_h n_h c_h xs_h) :
    Calls Try.prog 6 #[.slice a_l n_l c_l, .slice a_q n_q c_q, .slice a_h n_h c_h] w fun e w' => e = .returned (.bool true) ∧ Below w.heap.size w w' := by
  have HN := Lib.hid h_l.len
  have hlq := h_q.lt
  have hlh := h_h.lt
  have hll := h_l.lt
  have B0 : Below w.heap.size w w := Below.refl _ _
  have h_l_0 := h_l
  have h_q_0 := h_q
  have h_h_0 := h_h
  go_enter Try.func6, Try.ntmps6
  go_wp2_with fail
  have c := aliveR_any w
  refine c.mono ?_
  rintro e w1 ⟨rfl, hb⟩
  clear c
  have B1 := B0.trans (hb.mono B0.size)
  have h_l_1 := h_l_0.below hb
  have h_q_1 := h_q_0.below hb
  have h_h_1 := h_h_0.below hb
  clear hb B0 h_l_0 h_q_0 h_h_0
  go_wp2_with fail
  obtain ⟨gr, hgr⟩ : ∃ gr, greatV vs = gr := ⟨_, rfl⟩
  have GR := Lib.hid hgr
  clear hgr
  have c := Great_any w1 h_l_1
  rw [GR.out] at c
  refine c.mono ?_
  rintro e w2 ⟨rfl, hb⟩
  clear c
  have B2 := B1.trans (hb.mono B1.size)
  have h_l_2 := h_l_1.below hb
  have h_q_2 := h_q_1.below hb
  have h_h_2 := h_h_1.below hb
  clear hb B1 h_l_1 h_q_1 h_h_1
  cases gr with
  | true =>
    go_wp2_with fail
    go_ret
    exact ⟨rfl, B2⟩
  | false =>
    by_cases hbig : 200 < n_q
    case pos =>
      go_wp2_with fail
      go_ret
      exact ⟨rfl, B2⟩
    have hbi : decide ((n_q : Int) > 200) = false := decide_eq_false (by omega)
    have hn : n_l ≤ 1099511627776 := by have := great_len GR.out; have := HN.out; omega
    obtain ⟨ck, hck⟩ : ∃ ck, chkV vs = ck := ⟨_, rfl⟩
    have HCK := Lib.hid hck
    clear hck
    go_wp2_with fail
    have c := Check_any w2 h_l_2
    rw [HCK.out] at c
    refine c.mono ?_
    rintro e w3 ⟨rfl, hb⟩
    clear c
    have B3 := B2.trans (hb.mono B2.size)
    have h_l_3 := h_l_2.below hb
    have h_q_3 := h_q_2.below hb
    have h_h_3 := h_h_2.below hb
    clear hb B2 h_l_2 h_q_2 h_h_2
    by_cases hck : ck = 0
    case neg =>
      have e1 : (ck == (0 : Int)) = false := by simpa using hck
      have e2 : (ck != (0 : Int)) = true := by simpa using hck
      clear hck
      go_wp2_with fail
      go_ret
      exact ⟨rfl, B3⟩
    subst hck
    by_cases hz : n_l = 0
    case pos =>
      subst hz
      go_wp2_with fail
      go_ret
      exact ⟨rfl, B3⟩
    have hne : ((n_l : Int) == 0) = false := by simp; omega
    have hne2 : decide ((n_l : Int) = 0) = false := decide_eq_false (by omega)
    have HRS := Lib.hid (rise_of HCK.out).1
    have mk : ∀ w, (Instr.makeSlice 56 (.int .i64 (n_l : Int)) (.int .i64 (n_l : Int))).run Try.prog w = .ok (.slice (some ⟨w.heap.size, 0, none⟩) n_l n_l) (w.alloc (.cells (zeros .i64 n_l) 3)) := fun w => run_zeros etI n_l (by omega) (by omega) w
    go_wp2_with fail
    clear mk
    have BT := below_al w3 (.cells (zeros .i64 n_l) 3)
    have hvt := Blk.made .i64 3 w3 n_l
    obtain ⟨g, hg⟩ : ∃ g, g = w3.heap.size := ⟨_, rfl⟩
    rw [← hg] at hvt ⊢
    have HG := Lib.hid hg
    clear hg
    generalize w3.alloc (.cells (zeros .i64 n_l) 3) = wv at *
    refine (twinV_any wv (h_l_3.below BT) hn).mono ?_
    rintro e wt ⟨a0, c0, rfl, ho, hb⟩
    replace BT := BT.trans (hb.mono BT.size)
    replace hvt := hvt.below hb
    have hns := ho.rd
    clear hb ho
    have hI : Hid (OnceI vs vs (zs n_l)) := Lib.hid (by rw [← HN.out]; exact once_start vs)
    go_wp2_with fail
    go_loopw [9, 10] (fun now j wr => ∃ (i : Nat) (a : Option Addr) (c : Nat) (ns : List VQ) (vt : List Nat), i ≤ n_q ∧ j = .int .i64 (i : Nat) ∧ now = .slice a n_l c ∧ Below w3.heap.size w3 wr ∧ RdV wr a n_l c ns ∧ Blk .i64 3 wr g vt ∧ Hid (OnceI vs ns vt)) (fun _ j _ => n_q - (intOf j).toNat)
    case atStart => exact ⟨0, a0, c0, vs, zs n_l, Nat.zero_le _, rfl, rfl, BT, hns, hvt, hI⟩
    clear hns hvt hI BT
    case round =>
      rename_i wr _
      obtain ⟨i, a_n, c_n, ns, vt, hi, rfl, rfl, BT, hns, hvt, hI⟩ := hrel
      by_cases hlt : i < n_q ∧ i < n_h
      case pos =>
        obtain ⟨hlq1, hlh1⟩ := hlt
        have d1 : decide (((i : Nat) : Int) < (n_q : Int)) = true := decide_eq_true (by omega)
        have d2 : decide (((i : Nat) : Int) < (n_h : Int)) = true := decide_eq_true (by omega)
        have B500 := BT
        have h_l_500 := h_l_3.below BT
        have h_q_500 := h_q_3.below BT
        have h_h_500 := h_h_3.below BT
        have h_n_500 := hns
        clear hns BT
        obtain ⟨bq, oq, rfl, kq, bdq⟩ := h_q_500.cell i hlq1
        obtain ⟨bh, oh, rfl, kh, bdh⟩ := h_h_500.cell i hlh1
        obtain ⟨x, hx⟩ : ∃ x, nth xs_q i = x := ⟨_, rfl⟩
        rw [hx] at kq bdq
        obtain ⟨y, hy⟩ : ∃ y, nth xs_h i = y := ⟨_, rfl⟩
        rw [hy] at kh bdh
        replace bdq : x < 256 := bdq
        replace bdh : y < 256 := bdh
        clear hx hy
        obtain ⟨t, ht⟩ : ∃ t, y % n_l = t := ⟨_, rfl⟩
        have htn : t < n_l := by rw [← ht]; exact Nat.mod_lt _ (by omega)
        have hmt : Int.tmod ((y : Nat) : Int) ((n_l : Nat) : Int) = ((t : Nat) : Int) := by rw [← ht]; rfl
        obtain ⟨m, hm⟩ : ∃ m, x % 5 = m := ⟨_, rfl⟩
        have hm5 : m < 5 := by omega
        have hmm : Int.tmod ((x : Nat) : Int) 5 = ((m : Nat) : Int) := by rw [← hm]; rfl
        clear ht hm
        obtain ⟨bl, ol, rfl, hcl⟩ := h_l_500.addr (by omega)
        obtain ⟨kn, -, -⟩ := hcl t htn
        clear hcl
        obtain ⟨s, hs⟩ : ∃ s, (vth vs t).nm = s := ⟨_, rfl⟩
        rw [hs] at kn
        obtain ⟨us, hus⟩ : ∃ us, opV ns s (wasN ((m : Int) + 1)) (isN ((m : Int) + 1)) = us := ⟨_, rfl⟩
        have HOP := Lib.hid hus
        have HST := Lib.hid (fun h0 : us.2 = 0 => by
          have := once_step HRS.out hI.out (t := t) (by rw [HN.out]; exact htn) ((m : Int) + 1) (by rw [hs, hus]; exact h0)
          rw [hs, hus] at this
          exact this)
        clear hus hs
        have h_v_500 := hvt
        clear hvt
        go_upto_region 10 with fail
        have hb := (Below.refl wr.heap.size wr).drew
        replace kq := cell_below hb kq
        replace kn := cell_below hb kn
        have B501 := B500.trans (hb.mono B500.size)
        have h_l_501 := h_l_500.below hb
        have h_q_501 := h_q_500.below hb
        have h_h_501 := h_h_500.below hb
        have h_n_501 := h_n_500.below hb
        have h_v_501 := h_v_500.below hb
        clear hb B500 h_l_500 h_q_500 h_h_500 h_n_500 h_v_500
        refine wp_region_held_drew (S := (fun w' => w'.cell? ⟨bq, oq + i, none⟩ = some (.int .u8 ((x : Nat) : Int)) ∧ w'.cell? ⟨bl, ol + t * 3, none⟩ = some (.string s) ∧ True)) (by kernel_rfl) ?_ (fun hHeld => ?_)
        · exact ⟨kq, kn, trivial⟩
        generalize wr.drew = w501 at *
        refine wpAnyH_take (i := 0) (oi := ?oir1_0) (v := ?vr1_0) ?hir1_0 (by kernel_rfl) (by kernel_rfl) (by kernel_rfl) ?hqr1_0 ?hyr1_0 (by assumption) ?restr1_0
        case hir1_0 => simp only [List.getElem?_toArray, List.getElem?_cons_succ, List.getElem?_cons_zero]; rfl
        case hqr1_0 => exact fun _ _ _ h => h
        case hyr1_0 => (refine Or.inl ⟨by rfl, ?_⟩; intro w hSw; (try dsimp only at hSw); go_simp; all_goals with_reducible rfl)
        try simp only [Act.put, List.setIfInBounds_toArray, List.set_cons_zero, List.set_cons_succ]
        refine wpAnyH_take (i := 1) (oi := ?oir1_1) (v := ?vr1_1) ?hir1_1 (by kernel_rfl) (by kernel_rfl) (by kernel_rfl) ?hqr1_1 ?hyr1_1 (by assumption) ?restr1_1
        case hir1_1 => simp only [List.getElem?_toArray, List.getElem?_cons_succ, List.getElem?_cons_zero]; rfl
        case hqr1_1 => exact fun _ _ _ h => h
        case hyr1_1 => (refine Or.inl ⟨by rfl, ?_⟩; intro w hSw; (try dsimp only at hSw); go_simp; all_goals with_reducible rfl)
        try simp only [Act.put, List.setIfInBounds_toArray, List.set_cons_zero, List.set_cons_succ]
        refine wpAnyH_take (i := 2) (oi := ?oir1_2) (v := ?vr1_2) ?hir1_2 (by kernel_rfl) (by kernel_rfl) (by kernel_rfl) ?hqr1_2 ?hyr1_2 (by assumption) ?restr1_2
        case hir1_2 => simp only [List.getElem?_toArray, List.getElem?_cons_succ, List.getElem?_cons_zero]; rfl
        case hqr1_2 => exact fun _ _ _ h => h
        case hyr1_2 => (refine Or.inl ⟨by rfl, ?_⟩; intro w hSw; (try dsimp only at hSw); go_simp; all_goals with_reducible rfl)
        try simp only [Act.put, List.setIfInBounds_toArray, List.set_cons_zero, List.set_cons_succ]
        refine wpAnyH_take (i := 3) (oi := ?oir1_3) (v := ?vr1_3) ?hir1_3 (by kernel_rfl) (by kernel_rfl) (by kernel_rfl) ?hqr1_3 ?hyr1_3 (by assumption) ?restr1_3
        case hir1_3 => simp only [List.getElem?_toArray, List.getElem?_cons_succ, List.getElem?_cons_zero]; rfl
        case hqr1_3 => exact fun _ _ _ h => h
        case hyr1_3 => (refine Or.inl ⟨by rfl, ?_⟩; intro w hSw; (try dsimp only at hSw); go_simp; all_goals with_reducible rfl)
        try simp only [Act.put, List.setIfInBounds_toArray, List.set_cons_zero, List.set_cons_succ]
        refine wpAnyH_take (i := 4) (oi := ?oir1_4) (v := ?vr1_4) ?hir1_4 (by kernel_rfl) (by kernel_rfl) (by kernel_rfl) ?hqr1_4 ?hyr1_4 (by assumption) ?restr1_4
        case hir1_4 => simp only [List.getElem?_toArray, List.getElem?_cons_succ, List.getElem?_cons_zero]; rfl
        case hqr1_4 => exact fun _ _ _ h => h
        case hyr1_4 => (refine Or.inl ⟨by rfl, ?_⟩; intro w hSw; (try dsimp only at hSw); go_simp; all_goals with_reducible rfl)
        try simp only [Act.put, List.setIfInBounds_toArray, List.set_cons_zero, List.set_cons_succ]
        refine wpAnyH_take (i := 5) (oi := ?oir1_5) (v := ?vr1_5) ?hir1_5 (by kernel_rfl) (by kernel_rfl) (by kernel_rfl) ?hqr1_5 ?hyr1_5 (by assumption) ?restr1_5
        case hir1_5 => simp only [List.getElem?_toArray, List.getElem?_cons_succ, List.getElem?_cons_zero]; rfl
        case hqr1_5 => exact fun _ _ _ h => h
        case hyr1_5 => (refine Or.inl ⟨by rfl, ?_⟩; intro w hSw; (try dsimp only at hSw); go_simp; all_goals with_reducible rfl)
        try simp only [Act.put, List.setIfInBounds_toArray, List.set_cons_zero, List.set_cons_succ]
        refine wpAnyH_take (i := 6) (oi := ?oir1_6) (v := ?vr1_6) ?hir1_6 (by kernel_rfl) (by kernel_rfl) (by kernel_rfl) ?hqr1_6 ?hyr1_6 (by assumption) ?restr1_6
        case hir1_6 => simp only [List.getElem?_toArray, List.getElem?_cons_succ, List.getElem?_cons_zero]; rfl
        case hqr1_6 => exact fun _ _ _ h => h
        case hyr1_6 => (refine Or.inl ⟨by rfl, ?_⟩; intro w hSw; (try dsimp only at hSw); go_simp; all_goals with_reducible rfl)
        try simp only [Act.put, List.setIfInBounds_toArray, List.set_cons_zero, List.set_cons_succ]
        refine wpAnyH_take (i := 7) (oi := ?oir1_7) (v := ?vr1_7) ?hir1_7 (by kernel_rfl) (by kernel_rfl) (by kernel_rfl) ?hqr1_7 ?hyr1_7 (by assumption) ?restr1_7
        case hir1_7 => simp only [List.getElem?_toArray, List.getElem?_cons_succ, List.getElem?_cons_zero]; rfl
        case hqr1_7 => exact fun _ _ _ h => h
        case hyr1_7 => (refine Or.inl ⟨by rfl, ?_⟩; intro w hSw; (try dsimp only at hSw); go_simp; all_goals with_reducible rfl)
        try simp only [Act.put, List.setIfInBounds_toArray, List.set_cons_zero, List.set_cons_succ]
        refine wpAnyH_take (i := 8) (oi := ?oir1_8) (v := ?vr1_8) ?hir1_8 (by kernel_rfl) (by kernel_rfl) (by kernel_rfl) ?hqr1_8 ?hyr1_8 (by assumption) ?restr1_8
        case hir1_8 => simp only [List.getElem?_toArray, List.getElem?_cons_succ, List.getElem?_cons_zero]; rfl
        case hqr1_8 => exact fun _ _ _ h => h
        case hyr1_8 => (refine Or.inl ⟨by rfl, ?_⟩; intro w hSw; (try dsimp only at hSw); go_simp; all_goals with_reducible rfl)
        try simp only [Act.put, List.setIfInBounds_toArray, List.set_cons_zero, List.set_cons_succ]
        refine wpAnyH_take (i := 9) (oi := ?oir1_9) (v := ?vr1_9) ?hir1_9 (by kernel_rfl) (by kernel_rfl) (by kernel_rfl) ?hqr1_9 ?hyr1_9 (by assumption) ?restr1_9
        case hir1_9 => simp only [List.getElem?_toArray, List.getElem?_cons_succ, List.getElem?_cons_zero]; rfl
        case hqr1_9 => exact fun _ _ _ h => h
        case hyr1_9 => (refine Or.inl ⟨by rfl, ?_⟩; intro w hSw; (try dsimp only at hSw); go_simp; all_goals with_reducible rfl)
        try simp only [Act.put, List.setIfInBounds_toArray, List.set_cons_zero, List.set_cons_succ]
        refine wpAnyH_take (i := 10) (oi := ?oir1_10) (v := ?vr1_10) ?hir1_10 (by kernel_rfl) (by kernel_rfl) (by kernel_rfl) ?hqr1_10 ?hyr1_10 (by assumption) ?restr1_10
        case hir1_10 => simp only [List.getElem?_toArray, List.getElem?_cons_succ, List.getElem?_cons_zero]; rfl
        case hqr1_10 => exact fun _ _ _ h => h
        case hyr1_10 => (refine Or.inl ⟨by rfl, ?_⟩; intro w hSw; (try dsimp only at hSw); go_simp; all_goals with_reducible rfl)
        try simp only [Act.put, List.setIfInBounds_toArray, List.set_cons_zero, List.set_cons_succ]
        refine wpAnyH_take (i := 11) (oi := ?oir1_11) (v := ?vr1_11) ?hir1_11 (by kernel_rfl) (by kernel_rfl) (by kernel_rfl) ?hqr1_11 ?hyr1_11 (by assumption) ?restr1_11
        case hir1_11 => simp only [List.getElem?_toArray, List.getElem?_cons_succ, List.getElem?_cons_zero]; rfl
        case hqr1_11 => exact fun _ _ _ h => h
        case hyr1_11 => (refine Or.inl ⟨by rfl, ?_⟩; intro w hSw; (try dsimp only at hSw); go_simp; all_goals with_reducible rfl)
        try simp only [Act.put, List.setIfInBounds_toArray, List.set_cons_zero, List.set_cons_succ]
        refine wpAnyH_take (i := 12) (oi := ?oir1_12) (v := ?vr1_12) ?hir1_12 (by kernel_rfl) (by kernel_rfl) (by kernel_rfl) ?hqr1_12 ?hyr1_12 (by assumption) ?restr1_12
        case hir1_12 => simp only [List.getElem?_toArray, List.getElem?_cons_succ, List.getElem?_cons_zero]; rfl
        case hqr1_12 => exact fun _ _ _ h => h
        case hyr1_12 => (refine Or.inl ⟨by rfl, ?_⟩; intro w hSw; (try dsimp only at hSw); go_simp; all_goals with_reducible rfl)
        try simp only [Act.put, List.setIfInBounds_toArray, List.set_cons_zero, List.set_cons_succ]
        refine wpAnyH_ready (rs := [13]) (by kernel_rfl) (by simp) ?_
        refine AllReadyH.cons (o := ?or2_13) ?hor2_13 (fun K hK => ?kr2_13) AllReadyH.nil
        case hor2_13 => simp only [List.getElem?_toArray, List.getElem?_cons_succ, List.getElem?_cons_zero]; rfl
        go_simp
        rw [wrap_in' (z := ((m : Nat) : Int)) (by omega) (by omega), wrap_in' (z := ((m : Nat) : Int) + 1) (by omega) (by omega)]
        have c := does_any w501 h_n_501 s ((m : Int) + 1) (by omega) (by omega)
        rw [HOP.out] at c
        refine c.mono ?_
        rintro e w502 ⟨a_x, n_x, c_x, rfl, h_x_502, hb⟩
        clear c
        replace kq := cell_below hb kq
        replace kn := cell_below hb kn
        have B502 := B501.trans (hb.mono B501.size)
        have h_l_502 := h_l_501.below hb
        have h_q_502 := h_q_501.below hb
        have h_h_502 := h_h_501.below hb
        have h_n_502 := h_n_501.below hb
        have h_v_502 := h_v_501.below hb
        clear hb B501 h_l_501 h_q_501 h_h_501 h_n_501 h_v_501
        go_wp2_with fail
        clear hHeld
        refine hK.out _ _ ?_ (fun hHeld => ?_)
        · exact ⟨kq, kn, trivial⟩
        clear hK K
        try simp only [Act.put, List.setIfInBounds_toArray, List.set_cons_zero, List.set_cons_succ]
        refine wpAnyH_take (i := 14) (oi := ?oir3_14) (v := ?vr3_14) ?hir3_14 (by kernel_rfl) (by kernel_rfl) (by kernel_rfl) ?hqr3_14 ?hyr3_14 (by assumption) ?restr3_14
        case hir3_14 => simp only [List.getElem?_toArray, List.getElem?_cons_succ, List.getElem?_cons_zero]; rfl
        case hqr3_14 => exact fun _ _ _ h => h
        case hyr3_14 => (refine Or.inl ⟨by rfl, ?_⟩; intro w hSw; (try dsimp only at hSw); go_simp; all_goals with_reducible rfl)
        try simp only [Act.put, List.setIfInBounds_toArray, List.set_cons_zero, List.set_cons_succ]
        refine wpAnyH_take (i := 15) (oi := ?oir3_15) (v := ?vr3_15) ?hir3_15 (by kernel_rfl) (by kernel_rfl) (by kernel_rfl) ?hqr3_15 ?hyr3_15 (by assumption) ?restr3_15
        case hir3_15 => simp only [List.getElem?_toArray, List.getElem?_cons_succ, List.getElem?_cons_zero]; rfl
        case hqr3_15 => exact fun _ _ _ h => h
        case hyr3_15 => (refine Or.inl ⟨by rfl, ?_⟩; intro w hSw; (try dsimp only at hSw); go_simp; all_goals with_reducible rfl)
        try simp only [Act.put, List.setIfInBounds_toArray, List.set_cons_zero, List.set_cons_succ]
        refine wpAnyH_take (i := 16) (oi := ?oir3_16) (v := ?vr3_16) ?hir3_16 (by kernel_rfl) (by kernel_rfl) (by kernel_rfl) ?hqr3_16 ?hyr3_16 (by assumption) ?restr3_16
        case hir3_16 => simp only [List.getElem?_toArray, List.getElem?_cons_succ, List.getElem?_cons_zero]; rfl
        case hqr3_16 => exact fun _ _ _ h => h
        case hyr3_16 => (refine Or.inl ⟨by rfl, ?_⟩; intro w hSw; (try dsimp only at hSw); go_simp; all_goals with_reducible rfl)
        try simp only [Act.put, List.setIfInBounds_toArray, List.set_cons_zero, List.set_cons_succ]
        refine wpAnyH_take (i := 17) (oi := ?oir3_17) (v := ?vr3_17) ?hir3_17 (by kernel_rfl) (by kernel_rfl) (by kernel_rfl) ?hqr3_17 ?hyr3_17 (by assumption) ?restr3_17
        case hir3_17 => simp only [List.getElem?_toArray, List.getElem?_cons_succ, List.getElem?_cons_zero]; rfl
        case hqr3_17 => exact fun _ _ _ h => h
        case hyr3_17 => (refine Or.inl ⟨by rfl, ?_⟩; intro w hSw; (try dsimp only at hSw); go_simp; all_goals with_reducible rfl)
        try simp only [Act.put, List.setIfInBounds_toArray, List.set_cons_zero, List.set_cons_succ]
        refine wpAnyH_take (i := 18) (oi := ?oir3_18) (v := ?vr3_18) ?hir3_18 (by kernel_rfl) (by kernel_rfl) (by kernel_rfl) ?hqr3_18 ?hyr3_18 (by assumption) ?restr3_18
        case hir3_18 => simp only [List.getElem?_toArray, List.getElem?_cons_succ, List.getElem?_cons_zero]; rfl
        case hqr3_18 => exact fun _ _ _ h => h
        case hyr3_18 => (refine Or.inl ⟨by rfl, ?_⟩; intro w hSw; (try dsimp only at hSw); go_simp; all_goals with_reducible rfl)
        try simp only [Act.put, List.setIfInBounds_toArray, List.set_cons_zero, List.set_cons_succ]
        refine wpAnyH_done (by kernel_rfl) ?_ _
        clear hHeld kq kn
        obtain ⟨us, ek⟩ := us
        by_cases hek : ek = 0
        case neg =>
          have e1 : (ek == (0 : Int)) = false := by simpa using hek
          have e2 : (ek != (0 : Int)) = true := by simpa using hek
          clear hek
          go_wp2_with fail
          go_roundw
          case rel => exact ⟨i + 1, a_n, c_n, ns, vt, by omega, by go_num, rfl, B502, h_n_502, h_v_502, hI⟩
          case measure => simp [intOf]; omega
        subst hek
        obtain ⟨f1, f2, f3, f4, f5⟩ := HST.out rfl
        dsimp only at f2 f3 f5
        have hnx : n_l = n_x := by rw [← h_x_502.len, f2, HN.out]
        subst hnx
        obtain ⟨bn, on, rfl, hcn⟩ := h_n_502.addr (by omega)
        obtain ⟨-, -, ks⟩ := hcn t htn
        clear hcn
        obtain ⟨bx, ox, rfl, hcx⟩ := h_x_502.rd.addr (by omega)
        obtain ⟨-, -, kz⟩ := hcx t htn
        clear hcx
        obtain ⟨st, hst⟩ : ∃ st, (vth ns t).st = st := ⟨_, rfl⟩
        rw [hst] at ks f1
        clear hst
        obtain ⟨z, hz⟩ : ∃ z, isN ((m : Int) + 1) = z := ⟨_, rfl⟩
        have HZ := Lib.hid hz
        dsimp only at kz
        rw [f3, hz] at kz
        rw [hz] at f5
        have hz2 : z < 256 := by rw [← hz]; exact isN_lt _
        have F5 := Lib.hid f5
        clear f2 f3 f5 hz
        have g1 : (((st : Nat) : Int) == 3) = false := by simp; omega
        have g2 : decide (((st : Nat) : Int) = 3) = false := decide_eq_false (by omega)
        have hnn : ((n_l : Int) != (n_l : Int)) = false := by simp
        have hxr := h_x_502.rd
        have kv := h_v_502.cell t (by have := hI.out.2.1; have := HN.out; omega)
        obtain ⟨v, hv⟩ : ∃ v, nth vt t = v := ⟨_, rfl⟩
        rw [hv] at kv f4 F5
        have HV := Lib.hid hv
        clear hv
        have fv := h_v_502.free t
        by_cases hz3 : z = 3
        case pos =>
          subst hz3
          go_wp2_with fail
          have h5 := F5.out
          rw [if_pos rfl] at h5
          have h6 : Hid (OnceI vs us (vt.set t (v + 1))) := Lib.hid h5
          clear h5
          have h7 := hxr.setBlk h_v_502 t (.int .i64 ((v : Int) + 1))
          have h8 := h_v_502.set t (v + 1) (by show v + 1 < 9223372036854775808; omega)
          have h9 := B502.setCell (p := ⟨g, t, none⟩) (by rw [HG.out]; exact Nat.le_refl _) (.int .i64 ((v : Int) + 1))
          go_roundw
          case rel => exact ⟨i + 1, _, _, us, _, by omega, by go_num, rfl, h9, h7, h8, h6⟩
          case measure => simp [intOf]; omega
        case neg =>
          have g3 : (((z : Nat) : Int) == 3) = false := by simp; omega
          have g4 : decide (((z : Nat) : Int) = 3) = false := decide_eq_false (by omega)
          have h5 := F5.out
          rw [if_neg hz3] at h5
          have h6 : Hid (OnceI vs us vt) := Lib.hid h5
          clear h5 hz3
          go_wp2_with fail
          go_roundw
          case rel => exact ⟨i + 1, _, _, us, _, by omega, by go_num, rfl, B502, hxr, h_v_502, h6⟩
          case measure => simp [intOf]; omega
      case neg =>
        have hfin : Hid (¬ (i < n_q ∧ i < n_h)) := Lib.hid hlt
        have dq : (decide (((i : Nat) : Int) < (n_q : Int)) && decide (((i : Nat) : Int) < (n_h : Int))) = false := by
          rw [← Bool.not_eq_true, Bool.and_eq_true, decide_eq_true_eq, decide_eq_true_eq]
          omega
        by_cases hl1 : i < n_q
        case pos =>
          have d1 : decide (((i : Nat) : Int) < (n_q : Int)) = true := decide_eq_true (by omega)
          have d2 : decide (((i : Nat) : Int) < (n_h : Int)) = false := decide_eq_false (by omega)
          have B700 := BT
          have h_l_700 := h_l_3.below BT
          have h_n_700 := hns
          have h_v_700 := hvt
          clear hns BT hvt
          go_wp2_with fail
          go_loopw [14] (fun j wz => ∃ k : Nat, k ≤ n_l ∧ j = .int .i64 (k : Nat) ∧ Below wr.heap.size wr wz) (fun j _ => n_l - (intOf j).toNat)
          case atStart => exact ⟨0, Nat.zero_le _, rfl, Below.refl _ _⟩
          case round =>
            rename World => wz
            obtain ⟨k, hk, rfl, BZ⟩ := hrel
            by_cases hlt2 : k < n_l
            case neg =>
              obtain rfl : k = n_l := by omega
              have BE := B3.trans ((B700.trans (BZ.mono B700.size)).mono B3.size)
              go_wp2_with fail
              go_ret
              exact ⟨rfl, BE⟩
            case pos =>
              have B900 := BZ
              have h_l_900 := h_l_700.below BZ
              have h_n_900 := h_n_700.below BZ
              have h_v_900 := h_v_700.below BZ
              clear BZ
              obtain ⟨bl, ol, rfl, hcl⟩ := h_l_900.addr (by omega)
              obtain ⟨l0, l1, l2⟩ := hcl k hlt2
              obtain ⟨bn, on, rfl, hcn⟩ := h_n_900.addr (by omega)
              obtain ⟨n0, n1, n2⟩ := hcn k hlt2
              clear hcl hcn
              obtain ⟨i1, i2, i3⟩ := hI.out.2.2 k (by rw [HN.out]; exact hlt2)
              have kv := h_v_900.cell k (by have := hI.out.2.1; have := HN.out; omega)
              rw [i1] at n0
              rw [i2] at n1
              have hwk := h_l_900.w hlt2
              generalize (vth vs k).nm = nmk at *
              obtain ⟨w1, w2, -⟩ := hwk
              generalize (vth vs k).pc = pck at *
              obtain ⟨v, hv⟩ : ∃ v, nth vt k = v := ⟨_, rfl⟩
              rw [hv] at kv i3
              clear hv i1 i2
              obtain ⟨p, hp⟩ : ∃ p, (vth vs k).st = p := ⟨_, rfl⟩
              rw [hp] at l2 i3
              obtain ⟨q, hq⟩ : ∃ q, (vth ns k).st = q := ⟨_, rfl⟩
              rw [hq] at n2 i3
              clear hp hq
              have HEQ := Lib.hid (show (nmk.toList == nmk.toList) = true from by simp)
              by_cases hp3 : p = 3
              case pos =>
                by_cases hq3 : q = 3
                case pos =>
                  subst hp3
                  subst hq3
                  obtain rfl : v = 0 := by simp at i3; omega
                  clear i3
                  go_upto_region 26 with fail
                  clear l2 n2
                  have hb := (Below.refl wz.heap.size wz).drew
                  replace kv := cell_below hb kv
                  replace l0 := cell_below hb l0
                  replace n0 := cell_below hb n0
                  replace l1 := cell_below hb l1
                  replace n1 := cell_below hb n1
                  have B901 := B900.trans (hb.mono B900.size)
                  have h_l_901 := h_l_900.below hb
                  have h_n_901 := h_n_900.below hb
                  have h_v_901 := h_v_900.below hb
                  clear hb B900 h_l_900 h_n_900 h_v_900
                  refine wp_region_held_drew (S := (fun w' => w'.cell? ⟨g, k, none⟩ = some (.int .i64 ((0 : Nat) : Int)) ∧ w'.cell? ⟨bl, ol + k * 3, none⟩ = some (.string nmk) ∧ w'.cell? ⟨bn, on + k * 3, none⟩ = some (.string nmk) ∧ w'.cell? ⟨bl, ol + k * 3 + 1, none⟩ = some (.int .i64 pck) ∧ w'.cell? ⟨bn, on + k * 3 + 1, none⟩ = some (.int .i64 pck) ∧ True)) (by kernel_rfl) ?_ (fun hHeld => ?_)
                  · exact ⟨kv, l0, n0, l1, n1, trivial⟩
                  generalize wz.drew = w901 at *
                  refine wpAnyH_take (i := 0) (oi := ?oir4_0) (v := ?vr4_0) ?hir4_0 (by kernel_rfl) (by kernel_rfl) (by kernel_rfl) ?hqr4_0 ?hyr4_0 (by assumption) ?restr4_0
                  case hir4_0 => simp only [List.getElem?_toArray, List.getElem?_cons_succ, List.getElem?_cons_zero]; rfl
                  case hqr4_0 => exact fun _ _ _ h => h
                  case hyr4_0 => (refine Or.inl ⟨by rfl, ?_⟩; intro w hSw; (try dsimp only at hSw); go_simp; all_goals with_reducible rfl)
                  try simp only [Act.put, List.setIfInBounds_toArray, List.set_cons_zero, List.set_cons_succ]
                  refine wpAnyH_take (i := 1) (oi := ?oir4_1) (v := ?vr4_1) ?hir4_1 (by kernel_rfl) (by kernel_rfl) (by kernel_rfl) ?hqr4_1 ?hyr4_1 (by assumption) ?restr4_1
                  case hir4_1 => simp only [List.getElem?_toArray, List.getElem?_cons_succ, List.getElem?_cons_zero]; rfl
                  case hqr4_1 => exact fun _ _ _ h => h
                  case hyr4_1 => (refine Or.inl ⟨by rfl, ?_⟩; intro w hSw; (try dsimp only at hSw); go_simp; all_goals with_reducible rfl)
                  try simp only [Act.put, List.setIfInBounds_toArray, List.set_cons_zero, List.set_cons_succ]
                  refine wpAnyH_take (i := 2) (oi := ?oir4_2) (v := ?vr4_2) ?hir4_2 (by kernel_rfl) (by kernel_rfl) (by kernel_rfl) ?hqr4_2 ?hyr4_2 (by assumption) ?restr4_2
                  case hir4_2 => simp only [List.getElem?_toArray, List.getElem?_cons_succ, List.getElem?_cons_zero]; rfl
                  case hqr4_2 => exact fun _ _ _ h => h
                  case hyr4_2 => (refine Or.inl ⟨by rfl, ?_⟩; intro w hSw; (try dsimp only at hSw); go_simp; all_goals with_reducible rfl)
                  try simp only [Act.put, List.setIfInBounds_toArray, List.set_cons_zero, List.set_cons_succ]
                  refine wpAnyH_take (i := 3) (oi := ?oir4_3) (v := ?vr4_3) ?hir4_3 (by kernel_rfl) (by kernel_rfl) (by kernel_rfl) ?hqr4_3 ?hyr4_3 (by assumption) ?restr4_3
                  case hir4_3 => simp only [List.getElem?_toArray, List.getElem?_cons_succ, List.getElem?_cons_zero]; rfl
                  case hqr4_3 => exact fun _ _ _ h => h
                  case hyr4_3 => (refine Or.inl ⟨by rfl, ?_⟩; intro w hSw; (try dsimp only at hSw); go_simp; all_goals with_reducible rfl)
                  try simp only [Act.put, List.setIfInBounds_toArray, List.set_cons_zero, List.set_cons_succ]
                  refine wpAnyH_take (i := 4) (oi := ?oir4_4) (v := ?vr4_4) ?hir4_4 (by kernel_rfl) (by kernel_rfl) (by kernel_rfl) ?hqr4_4 ?hyr4_4 (by assumption) ?restr4_4
                  case hir4_4 => simp only [List.getElem?_toArray, List.getElem?_cons_succ, List.getElem?_cons_zero]; rfl
                  case hqr4_4 => exact fun _ _ _ h => h
                  case hyr4_4 => (refine Or.inl ⟨by rfl, ?_⟩; intro w hSw; (try dsimp only at hSw); go_simp; all_goals with_reducible rfl)
                  try simp only [Act.put, List.setIfInBounds_toArray, List.set_cons_zero, List.set_cons_succ]
                  refine wpAnyH_take (i := 5) (oi := ?oir4_5) (v := ?vr4_5) ?hir4_5 (by kernel_rfl) (by kernel_rfl) (by kernel_rfl) ?hqr4_5 ?hyr4_5 (by assumption) ?restr4_5
                  case hir4_5 => simp only [List.getElem?_toArray, List.getElem?_cons_succ, List.getElem?_cons_zero]; rfl
                  case hqr4_5 => exact fun _ _ _ h => h
                  case hyr4_5 => (refine Or.inl ⟨by rfl, ?_⟩; intro w hSw; (try dsimp only at hSw); go_simp; all_goals with_reducible rfl)
                  try simp only [Act.put, List.setIfInBounds_toArray, List.set_cons_zero, List.set_cons_succ]
                  refine wpAnyH_take (i := 6) (oi := ?oir4_6) (v := ?vr4_6) ?hir4_6 (by kernel_rfl) (by kernel_rfl) (by kernel_rfl) ?hqr4_6 ?hyr4_6 (by assumption) ?restr4_6
                  case hir4_6 => simp only [List.getElem?_toArray, List.getElem?_cons_succ, List.getElem?_cons_zero]; rfl
                  case hqr4_6 => exact fun _ _ _ h => h
                  case hyr4_6 => (refine Or.inl ⟨by rfl, ?_⟩; intro w hSw; (try dsimp only at hSw); go_simp; all_goals with_reducible rfl)
                  try simp only [Act.put, List.setIfInBounds_toArray, List.set_cons_zero, List.set_cons_succ]
                  refine wpAnyH_take (i := 7) (oi := ?oir4_7) (v := ?vr4_7) ?hir4_7 (by kernel_rfl) (by kernel_rfl) (by kernel_rfl) ?hqr4_7 ?hyr4_7 (by assumption) ?restr4_7
                  case hir4_7 => simp only [List.getElem?_toArray, List.getElem?_cons_succ, List.getElem?_cons_zero]; rfl
                  case hqr4_7 => exact fun _ _ _ h => h
                  case hyr4_7 => (refine Or.inl ⟨by rfl, ?_⟩; intro w hSw; (try dsimp only at hSw); go_simp; all_goals with_reducible rfl)
                  try simp only [Act.put, List.setIfInBounds_toArray, List.set_cons_zero, List.set_cons_succ]
                  refine wpAnyH_take (i := 8) (oi := ?oir4_8) (v := ?vr4_8) ?hir4_8 (by kernel_rfl) (by kernel_rfl) (by kernel_rfl) ?hqr4_8 ?hyr4_8 (by assumption) ?restr4_8
                  case hir4_8 => simp only [List.getElem?_toArray, List.getElem?_cons_succ, List.getElem?_cons_zero]; rfl
                  case hqr4_8 => exact fun _ _ _ h => h
                  case hyr4_8 => (refine Or.inl ⟨by rfl, ?_⟩; intro w hSw; (try dsimp only at hSw); go_simp; all_goals with_reducible rfl)
                  try simp only [Act.put, List.setIfInBounds_toArray, List.set_cons_zero, List.set_cons_succ]
                  refine wpAnyH_take (i := 9) (oi := ?oir4_9) (v := ?vr4_9) ?hir4_9 (by kernel_rfl) (by kernel_rfl) (by kernel_rfl) ?hqr4_9 ?hyr4_9 (by assumption) ?restr4_9
                  case hir4_9 => simp only [List.getElem?_toArray, List.getElem?_cons_succ, List.getElem?_cons_zero]; rfl
                  case hqr4_9 => exact fun _ _ _ h => h
                  case hyr4_9 => (refine Or.inl ⟨by rfl, ?_⟩; intro w hSw; (try dsimp only at hSw); go_simp; all_goals with_reducible rfl)
                  try simp only [Act.put, List.setIfInBounds_toArray, List.set_cons_zero, List.set_cons_succ]
                  refine wpAnyH_take (i := 10) (oi := ?oir4_10) (v := ?vr4_10) ?hir4_10 (by kernel_rfl) (by kernel_rfl) (by kernel_rfl) ?hqr4_10 ?hyr4_10 (by assumption) ?restr4_10
                  case hir4_10 => simp only [List.getElem?_toArray, List.getElem?_cons_succ, List.getElem?_cons_zero]; rfl
                  case hqr4_10 => exact fun _ _ _ h => h
                  case hyr4_10 => (refine Or.inl ⟨by rfl, ?_⟩; intro w hSw; (try dsimp only at hSw); go_simp; all_goals with_reducible rfl)
                  try simp only [Act.put, List.setIfInBounds_toArray, List.set_cons_zero, List.set_cons_succ]
                  refine wpAnyH_take (i := 11) (oi := ?oir4_11) (v := ?vr4_11) ?hir4_11 (by kernel_rfl) (by kernel_rfl) (by kernel_rfl) ?hqr4_11 ?hyr4_11 (by assumption) ?restr4_11
                  case hir4_11 => simp only [List.getElem?_toArray, List.getElem?_cons_succ, List.getElem?_cons_zero]; rfl
                  case hqr4_11 => exact fun _ _ _ h => h
                  case hyr4_11 => (refine Or.inl ⟨by rfl, ?_⟩; intro w hSw; (try dsimp only at hSw); go_simp; all_goals with_reducible rfl)
                  try simp only [Act.put, List.setIfInBounds_toArray, List.set_cons_zero, List.set_cons_succ]
                  refine wpAnyH_take (i := 12) (oi := ?oir4_12) (v := ?vr4_12) ?hir4_12 (by kernel_rfl) (by kernel_rfl) (by kernel_rfl) ?hqr4_12 ?hyr4_12 (by assumption) ?restr4_12
                  case hir4_12 => simp only [List.getElem?_toArray, List.getElem?_cons_succ, List.getElem?_cons_zero]; rfl
                  case hqr4_12 => exact fun _ _ _ h => h
                  case hyr4_12 => (refine Or.inl ⟨by rfl, ?_⟩; intro w hSw; (try dsimp only at hSw); go_simp; all_goals with_reducible rfl)
                  try simp only [Act.put, List.setIfInBounds_toArray, List.set_cons_zero, List.set_cons_succ]
                  refine wpAnyH_take (i := 13) (oi := ?oir4_13) (v := ?vr4_13) ?hir4_13 (by kernel_rfl) (by kernel_rfl) (by kernel_rfl) ?hqr4_13 ?hyr4_13 (by assumption) ?restr4_13
                  case hir4_13 => simp only [List.getElem?_toArray, List.getElem?_cons_succ, List.getElem?_cons_zero]; rfl
                  case hqr4_13 => exact fun _ _ _ h => h
                  case hyr4_13 => (refine Or.inl ⟨by rfl, ?_⟩; intro w hSw; (try dsimp only at hSw); go_simp; all_goals with_reducible rfl)
                  try simp only [Act.put, List.setIfInBounds_toArray, List.set_cons_zero, List.set_cons_succ]
                  refine wpAnyH_take (i := 14) (oi := ?oir4_14) (v := ?vr4_14) ?hir4_14 (by kernel_rfl) (by kernel_rfl) (by kernel_rfl) ?hqr4_14 ?hyr4_14 (by assumption) ?restr4_14
                  case hir4_14 => simp only [List.getElem?_toArray, List.getElem?_cons_succ, List.getElem?_cons_zero]; rfl
                  case hqr4_14 => exact fun _ _ _ h => h
                  case hyr4_14 => (refine Or.inl ⟨by rfl, ?_⟩; intro w hSw; (try dsimp only at hSw); go_simp; all_goals with_reducible rfl)
                  try simp only [Act.put, List.setIfInBounds_toArray, List.set_cons_zero, List.set_cons_succ]
                  refine wpAnyH_take (i := 15) (oi := ?oir4_15) (v := ?vr4_15) ?hir4_15 (by kernel_rfl) (by kernel_rfl) (by kernel_rfl) ?hqr4_15 ?hyr4_15 (by assumption) ?restr4_15
                  case hir4_15 => simp only [List.getElem?_toArray, List.getElem?_cons_succ, List.getElem?_cons_zero]; rfl
                  case hqr4_15 => exact fun _ _ _ h => h
                  case hyr4_15 => (refine Or.inl ⟨by rfl, ?_⟩; intro w hSw; (try dsimp only at hSw); go_simp; all_goals with_reducible rfl)
                  try simp only [Act.put, List.setIfInBounds_toArray, List.set_cons_zero, List.set_cons_succ]
                  refine wpAnyH_take (i := 16) (oi := ?oir4_16) (v := ?vr4_16) ?hir4_16 (by kernel_rfl) (by kernel_rfl) (by kernel_rfl) ?hqr4_16 ?hyr4_16 (by assumption) ?restr4_16
                  case hir4_16 => simp only [List.getElem?_toArray, List.getElem?_cons_succ, List.getElem?_cons_zero]; rfl
                  case hqr4_16 => exact fun _ _ _ h => h
                  case hyr4_16 => (refine Or.inl ⟨by rfl, ?_⟩; intro w hSw; (try dsimp only at hSw); go_simp; all_goals with_reducible rfl)
                  try simp only [Act.put, List.setIfInBounds_toArray, List.set_cons_zero, List.set_cons_succ]
                  refine wpAnyH_take (i := 17) (oi := ?oir4_17) (v := ?vr4_17) ?hir4_17 (by kernel_rfl) (by kernel_rfl) (by kernel_rfl) ?hqr4_17 ?hyr4_17 (by assumption) ?restr4_17
                  case hir4_17 => simp only [List.getElem?_toArray, List.getElem?_cons_succ, List.getElem?_cons_zero]; rfl
                  case hqr4_17 => exact fun _ _ _ h => h
                  case hyr4_17 => (refine Or.inl ⟨by rfl, ?_⟩; intro w hSw; (try dsimp only at hSw); go_simp; all_goals with_reducible rfl)
                  try simp only [Act.put, List.setIfInBounds_toArray, List.set_cons_zero, List.set_cons_succ]
                  refine wpAnyH_take (i := 18) (oi := ?oir4_18) (v := ?vr4_18) ?hir4_18 (by kernel_rfl) (by kernel_rfl) (by kernel_rfl) ?hqr4_18 ?hyr4_18 (by assumption) ?restr4_18
                  case hir4_18 => simp only [List.getElem?_toArray, List.getElem?_cons_succ, List.getElem?_cons_zero]; rfl
                  case hqr4_18 => exact fun _ _ _ h => h
                  case hyr4_18 => (refine Or.inl ⟨by rfl, ?_⟩; intro w hSw; (try dsimp only at hSw); go_simp; all_goals with_reducible rfl)
                  try simp only [Act.put, List.setIfInBounds_toArray, List.set_cons_zero, List.set_cons_succ]
                  refine wpAnyH_take (i := 19) (oi := ?oir4_19) (v := ?vr4_19) ?hir4_19 (by kernel_rfl) (by kernel_rfl) (by kernel_rfl) ?hqr4_19 ?hyr4_19 (by assumption) ?restr4_19
                  case hir4_19 => simp only [List.getElem?_toArray, List.getElem?_cons_succ, List.getElem?_cons_zero]; rfl
                  case hqr4_19 => exact fun _ _ _ h => h
                  case hyr4_19 => (refine Or.inl ⟨by rfl, ?_⟩; intro w hSw; (try dsimp only at hSw); go_simp; all_goals with_reducible rfl)
                  try simp only [Act.put, List.setIfInBounds_toArray, List.set_cons_zero, List.set_cons_succ]
                  refine wpAnyH_take (i := 20) (oi := ?oir4_20) (v := ?vr4_20) ?hir4_20 (by kernel_rfl) (by kernel_rfl) (by kernel_rfl) ?hqr4_20 ?hyr4_20 (by assumption) ?restr4_20
                  case hir4_20 => simp only [List.getElem?_toArray, List.getElem?_cons_succ, List.getElem?_cons_zero]; rfl
                  case hqr4_20 => exact fun _ _ _ h => h
                  case hyr4_20 => (refine Or.inl ⟨by rfl, ?_⟩; intro w hSw; (try dsimp only at hSw); go_simp; all_goals with_reducible rfl)
                  try simp only [Act.put, List.setIfInBounds_toArray, List.set_cons_zero, List.set_cons_succ]
                  refine wpAnyH_take (i := 21) (oi := ?oir4_21) (v := ?vr4_21) ?hir4_21 (by kernel_rfl) (by kernel_rfl) (by kernel_rfl) ?hqr4_21 ?hyr4_21 (by assumption) ?restr4_21
                  case hir4_21 => simp only [List.getElem?_toArray, List.getElem?_cons_succ, List.getElem?_cons_zero]; rfl
                  case hqr4_21 => exact fun _ _ _ h => h
                  case hyr4_21 => (refine Or.inl ⟨by rfl, ?_⟩; intro w hSw; (try dsimp only at hSw); go_simp; all_goals with_reducible rfl)
                  try simp only [Act.put, List.setIfInBounds_toArray, List.set_cons_zero, List.set_cons_succ]
                  refine wpAnyH_take (i := 22) (oi := ?oir4_22) (v := ?vr4_22) ?hir4_22 (by kernel_rfl) (by kernel_rfl) (by kernel_rfl) ?hqr4_22 ?hyr4_22 (by assumption) ?restr4_22
                  case hir4_22 => simp only [List.getElem?_toArray, List.getElem?_cons_succ, List.getElem?_cons_zero]; rfl
                  case hqr4_22 => exact fun _ _ _ h => h
                  case hyr4_22 => (refine Or.inl ⟨by rfl, ?_⟩; intro w hSw; (try dsimp only at hSw); go_simp; all_goals with_reducible rfl)
                  try simp only [Act.put, List.setIfInBounds_toArray, List.set_cons_zero, List.set_cons_succ]
                  refine wpAnyH_take (i := 23) (oi := ?oir4_23) (v := ?vr4_23) ?hir4_23 (by kernel_rfl) (by kernel_rfl) (by kernel_rfl) ?hqr4_23 ?hyr4_23 (by assumption) ?restr4_23
                  case hir4_23 => simp only [List.getElem?_toArray, List.getElem?_cons_succ, List.getElem?_cons_zero]; rfl
                  case hqr4_23 => exact fun _ _ _ h => h
                  case hyr4_23 => (refine Or.inl ⟨by rfl, ?_⟩; intro w hSw; (try dsimp only at hSw); go_simp; all_goals with_reducible rfl)
                  try simp only [Act.put, List.setIfInBounds_toArray, List.set_cons_zero, List.set_cons_succ]
                  refine wpAnyH_take (i := 24) (oi := ?oir4_24) (v := ?vr4_24) ?hir4_24 (by kernel_rfl) (by kernel_rfl) (by kernel_rfl) ?hqr4_24 ?hyr4_24 (by assumption) ?restr4_24
                  case hir4_24 => simp only [List.getElem?_toArray, List.getElem?_cons_succ, List.getElem?_cons_zero]; rfl
                  case hqr4_24 => exact fun _ _ _ h => h
                  case hyr4_24 => (refine Or.inl ⟨by rfl, ?_⟩; intro w hSw; (try dsimp only at hSw); go_simp; all_goals with_reducible rfl)
                  try simp only [Act.put, List.setIfInBounds_toArray, List.set_cons_zero, List.set_cons_succ]
                  refine wpAnyH_take (i := 25) (oi := ?oir4_25) (v := ?vr4_25) ?hir4_25 (by kernel_rfl) (by kernel_rfl) (by kernel_rfl) ?hqr4_25 ?hyr4_25 (by assumption) ?restr4_25
                  case hir4_25 => simp only [List.getElem?_toArray, List.getElem?_cons_succ, List.getElem?_cons_zero]; rfl
                  case hqr4_25 => exact fun _ _ _ h => h
                  case hyr4_25 => (refine Or.inl ⟨by rfl, ?_⟩; intro w hSw; (try dsimp only at hSw); go_simp; all_goals with_reducible rfl)
                  try simp only [Act.put, List.setIfInBounds_toArray, List.set_cons_zero, List.set_cons_succ]
                  refine wpAnyH_take (i := 26) (oi := ?oir4_26) (v := ?vr4_26) ?hir4_26 (by kernel_rfl) (by kernel_rfl) (by kernel_rfl) ?hqr4_26 ?hyr4_26 (by assumption) ?restr4_26
                  case hir4_26 => simp only [List.getElem?_toArray, List.getElem?_cons_succ, List.getElem?_cons_zero]; rfl
                  case hqr4_26 => exact fun _ _ _ h => h
                  case hyr4_26 => (refine Or.inl ⟨by rfl, ?_⟩; intro w hSw; (try dsimp only at hSw); go_simp; all_goals with_reducible rfl)
                  try simp only [Act.put, List.setIfInBounds_toArray, List.set_cons_zero, List.set_cons_succ]
                  refine wpAnyH_take (i := 27) (oi := ?oir4_27) (v := ?vr4_27) ?hir4_27 (by kernel_rfl) (by kernel_rfl) (by kernel_rfl) ?hqr4_27 ?hyr4_27 (by assumption) ?restr4_27
                  case hir4_27 => simp only [List.getElem?_toArray, List.getElem?_cons_succ, List.getElem?_cons_zero]; rfl
                  case hqr4_27 => exact fun _ _ _ h => h
                  case hyr4_27 => (refine Or.inl ⟨by rfl, ?_⟩; intro w hSw; (try dsimp only at hSw); go_simp; all_goals with_reducible rfl)
                  try simp only [Act.put, List.setIfInBounds_toArray, List.set_cons_zero, List.set_cons_succ]
                  refine wpAnyH_take (i := 28) (oi := ?oir4_28) (v := ?vr4_28) ?hir4_28 (by kernel_rfl) (by kernel_rfl) (by kernel_rfl) ?hqr4_28 ?hyr4_28 (by assumption) ?restr4_28
                  case hir4_28 => simp only [List.getElem?_toArray, List.getElem?_cons_succ, List.getElem?_cons_zero]; rfl
                  case hqr4_28 => exact fun _ _ _ h => h
                  case hyr4_28 => (refine Or.inl ⟨by rfl, ?_⟩; intro w hSw; (try dsimp only at hSw); go_simp; all_goals with_reducible rfl)
                  try simp only [Act.put, List.setIfInBounds_toArray, List.set_cons_zero, List.set_cons_succ]
                  refine wpAnyH_take (i := 29) (oi := ?oir4_29) (v := ?vr4_29) ?hir4_29 (by kernel_rfl) (by kernel_rfl) (by kernel_rfl) ?hqr4_29 ?hyr4_29 (by assumption) ?restr4_29
                  case hir4_29 => simp only [List.getElem?_toArray, List.getElem?_cons_succ, List.getElem?_cons_zero]; rfl
                  case hqr4_29 => exact fun _ _ _ h => h
                  case hyr4_29 => (refine Or.inl ⟨by rfl, ?_⟩; intro w hSw; (try dsimp only at hSw); go_simp; all_goals with_reducible rfl)
                  try simp only [Act.put, List.setIfInBounds_toArray, List.set_cons_zero, List.set_cons_succ]
                  refine wpAnyH_take (i := 30) (oi := ?oir4_30) (v := ?vr4_30) ?hir4_30 (by kernel_rfl) (by kernel_rfl) (by kernel_rfl) ?hqr4_30 ?hyr4_30 (by assumption) ?restr4_30
                  case hir4_30 => simp only [List.getElem?_toArray, List.getElem?_cons_succ, List.getElem?_cons_zero]; rfl
                  case hqr4_30 => exact fun _ _ _ h => h
                  case hyr4_30 => (refine Or.inl ⟨by rfl, ?_⟩; intro w hSw; (try dsimp only at hSw); go_simp; all_goals with_reducible rfl)
                  try simp only [Act.put, List.setIfInBounds_toArray, List.set_cons_zero, List.set_cons_succ]
                  refine wpAnyH_take (i := 31) (oi := ?oir4_31) (v := ?vr4_31) ?hir4_31 (by kernel_rfl) (by kernel_rfl) (by kernel_rfl) ?hqr4_31 ?hyr4_31 (by assumption) ?restr4_31
                  case hir4_31 => simp only [List.getElem?_toArray, List.getElem?_cons_succ, List.getElem?_cons_zero]; rfl
                  case hqr4_31 => exact fun _ _ _ h => h
                  case hyr4_31 => (refine Or.inl ⟨by rfl, ?_⟩; intro w hSw; (try dsimp only at hSw); go_simp; all_goals with_reducible rfl)
                  try simp only [Act.put, List.setIfInBounds_toArray, List.set_cons_zero, List.set_cons_succ]
                  refine wpAnyH_take (i := 32) (oi := ?oir4_32) (v := ?vr4_32) ?hir4_32 (by kernel_rfl) (by kernel_rfl) (by kernel_rfl) ?hqr4_32 ?hyr4_32 (by assumption) ?restr4_32
                  case hir4_32 => simp only [List.getElem?_toArray, List.getElem?_cons_succ, List.getElem?_cons_zero]; rfl
                  case hqr4_32 => exact fun _ _ _ h => h
                  case hyr4_32 => (refine Or.inl ⟨by rfl, ?_⟩; intro w hSw; (try dsimp only at hSw); go_simp; all_goals with_reducible rfl)
                  try simp only [Act.put, List.setIfInBounds_toArray, List.set_cons_zero, List.set_cons_succ]
                  refine wpAnyH_take (i := 33) (oi := ?oir4_33) (v := ?vr4_33) ?hir4_33 (by kernel_rfl) (by kernel_rfl) (by kernel_rfl) ?hqr4_33 ?hyr4_33 (by assumption) ?restr4_33
                  case hir4_33 => simp only [List.getElem?_toArray, List.getElem?_cons_succ, List.getElem?_cons_zero]; rfl
                  case hqr4_33 => exact fun _ _ _ h => h
                  case hyr4_33 => (refine Or.inl ⟨by rfl, ?_⟩; intro w hSw; (try dsimp only at hSw); go_simp; all_goals with_reducible rfl)
                  try simp only [Act.put, List.setIfInBounds_toArray, List.set_cons_zero, List.set_cons_succ]
                  refine wpAnyH_done (by kernel_rfl) ?_ _
                  clear hHeld kv l0 n0 l1 n1
                  go_wp2_with fail
                  go_roundw
                  case rel => exact ⟨k + 1, by omega, by go_num, B901⟩
                  case measure => simp [intOf]; omega
                case neg => rw [if_pos hp3, if_neg hq3] at i3; omega
              case neg =>
                by_cases hq3 : q = 3
                case pos =>
                  have pe : (((p : Nat) : Int) == 3) = false := by simp; omega
                  have pd : decide (((p : Nat) : Int) = 3) = false := decide_eq_false (by omega)
                  subst hq3
                  obtain rfl : v = 1 := by rw [if_neg hp3, if_pos rfl] at i3; omega
                  clear i3 hp3
                  go_upto_region 26 with fail
                  clear l2 n2
                  have hb := (Below.refl wz.heap.size wz).drew
                  replace kv := cell_below hb kv
                  replace l0 := cell_below hb l0
                  replace n0 := cell_below hb n0
                  replace l1 := cell_below hb l1
                  replace n1 := cell_below hb n1
                  have B901 := B900.trans (hb.mono B900.size)
                  have h_l_901 := h_l_900.below hb
                  have h_n_901 := h_n_900.below hb
                  have h_v_901 := h_v_900.below hb
                  clear hb B900 h_l_900 h_n_900 h_v_900
                  refine wp_region_held_drew (S := (fun w' => w'.cell? ⟨g, k, none⟩ = some (.int .i64 ((1 : Nat) : Int)) ∧ w'.cell? ⟨bl, ol + k * 3, none⟩ = some (.string nmk) ∧ w'.cell? ⟨bn, on + k * 3, none⟩ = some (.string nmk) ∧ w'.cell? ⟨bl, ol + k * 3 + 1, none⟩ = some (.int .i64 pck) ∧ w'.cell? ⟨bn, on + k * 3 + 1, none⟩ = some (.int .i64 pck) ∧ True)) (by kernel_rfl) ?_ (fun hHeld => ?_)
                  · exact ⟨kv, l0, n0, l1, n1, trivial⟩
                  generalize wz.drew = w901 at *
                  refine wpAnyH_take (i := 0) (oi := ?oir5_0) (v := ?vr5_0) ?hir5_0 (by kernel_rfl) (by kernel_rfl) (by kernel_rfl) ?hqr5_0 ?hyr5_0 (by assumption) ?restr5_0
                  case hir5_0 => simp only [List.getElem?_toArray, List.getElem?_cons_succ, List.getElem?_cons_zero]; rfl
                  case hqr5_0 => exact fun _ _ _ h => h
                  case hyr5_0 => (refine Or.inl ⟨by rfl, ?_⟩; intro w hSw; (try dsimp only at hSw); go_simp; all_goals with_reducible rfl)
                  try simp only [Act.put, List.setIfInBounds_toArray, List.set_cons_zero, List.set_cons_succ]
                  refine wpAnyH_take (i := 1) (oi := ?oir5_1) (v := ?vr5_1) ?hir5_1 (by kernel_rfl) (by kernel_rfl) (by kernel_rfl) ?hqr5_1 ?hyr5_1 (by assumption) ?restr5_1
                  case hir5_1 => simp only [List.getElem?_toArray, List.getElem?_cons_succ, List.getElem?_cons_zero]; rfl
                  case hqr5_1 => exact fun _ _ _ h => h
                  case hyr5_1 => (refine Or.inl ⟨by rfl, ?_⟩; intro w hSw; (try dsimp only at hSw); go_simp; all_goals with_reducible rfl)
                  try simp only [Act.put, List.setIfInBounds_toArray, List.set_cons_zero, List.set_cons_succ]
                  refine wpAnyH_take (i := 2) (oi := ?oir5_2) (v := ?vr5_2) ?hir5_2 (by kernel_rfl) (by kernel_rfl) (by kernel_rfl) ?hqr5_2 ?hyr5_2 (by assumption) ?restr5_2
                  case hir5_2 => simp only [List.getElem?_toArray, List.getElem?_cons_succ, List.getElem?_cons_zero]; rfl
                  case hqr5_2 => exact fun _ _ _ h => h
                  case hyr5_2 => (refine Or.inl ⟨by rfl, ?_⟩; intro w hSw; (try dsimp only at hSw); go_simp; all_goals with_reducible rfl)
                  try simp only [Act.put, List.setIfInBounds_toArray, List.set_cons_zero, List.set_cons_succ]
                  refine wpAnyH_take (i := 3) (oi := ?oir5_3) (v := ?vr5_3) ?hir5_3 (by kernel_rfl) (by kernel_rfl) (by kernel_rfl) ?hqr5_3 ?hyr5_3 (by assumption) ?restr5_3
                  case hir5_3 => simp only [List.getElem?_toArray, List.getElem?_cons_succ, List.getElem?_cons_zero]; rfl
                  case hqr5_3 => exact fun _ _ _ h => h
                  case hyr5_3 => (refine Or.inl ⟨by rfl, ?_⟩; intro w hSw; (try dsimp only at hSw); go_simp; all_goals with_reducible rfl)
                  try simp only [Act.put, List.setIfInBounds_toArray, List.set_cons_zero, List.set_cons_succ]
                  refine wpAnyH_take (i := 4) (oi := ?oir5_4) (v := ?vr5_4) ?hir5_4 (by kernel_rfl) (by kernel_rfl) (by kernel_rfl) ?hqr5_4 ?hyr5_4 (by assumption) ?restr5_4
                  case hir5_4 => simp only [List.getElem?_toArray, List.getElem?_cons_succ, List.getElem?_cons_zero]; rfl
                  case hqr5_4 => exact fun _ _ _ h => h
                  case hyr5_4 => (refine Or.inl ⟨by rfl, ?_⟩; intro w hSw; (try dsimp only at hSw); go_simp; all_goals with_reducible rfl)
                  try simp only [Act.put, List.setIfInBounds_toArray, List.set_cons_zero, List.set_cons_succ]
                  refine wpAnyH_take (i := 5) (oi := ?oir5_5) (v := ?vr5_5) ?hir5_5 (by kernel_rfl) (by kernel_rfl) (by kernel_rfl) ?hqr5_5 ?hyr5_5 (by assumption) ?restr5_5
                  case hir5_5 => simp only [List.getElem?_toArray, List.getElem?_cons_succ, List.getElem?_cons_zero]; rfl
                  case hqr5_5 => exact fun _ _ _ h => h
                  case hyr5_5 => (refine Or.inl ⟨by rfl, ?_⟩; intro w hSw; (try dsimp only at hSw); go_simp; all_goals with_reducible rfl)
                  try simp only [Act.put, List.setIfInBounds_toArray, List.set_cons_zero, List.set_cons_succ]
                  refine wpAnyH_take (i := 6) (oi := ?oir5_6) (v := ?vr5_6) ?hir5_6 (by kernel_rfl) (by kernel_rfl) (by kernel_rfl) ?hqr5_6 ?hyr5_6 (by assumption) ?restr5_6
                  case hir5_6 => simp only [List.getElem?_toArray, List.getElem?_cons_succ, List.getElem?_cons_zero]; rfl
                  case hqr5_6 => exact fun _ _ _ h => h
                  case hyr5_6 => (refine Or.inl ⟨by rfl, ?_⟩; intro w hSw; (try dsimp only at hSw); go_simp; all_goals with_reducible rfl)
                  try simp only [Act.put, List.setIfInBounds_toArray, List.set_cons_zero, List.set_cons_succ]
                  refine wpAnyH_take (i := 7) (oi := ?oir5_7) (v := ?vr5_7) ?hir5_7 (by kernel_rfl) (by kernel_rfl) (by kernel_rfl) ?hqr5_7 ?hyr5_7 (by assumption) ?restr5_7
                  case hir5_7 => simp only [List.getElem?_toArray, List.getElem?_cons_succ, List.getElem?_cons_zero]; rfl
                  case hqr5_7 => exact fun _ _ _ h => h
                  case hyr5_7 => (refine Or.inl ⟨by rfl, ?_⟩; intro w hSw; (try dsimp only at hSw); go_simp; all_goals with_reducible rfl)
                  try simp only [Act.put, List.setIfInBounds_toArray, List.set_cons_zero, List.set_cons_succ]
                  refine wpAnyH_take (i := 8) (oi := ?oir5_8) (v := ?vr5_8) ?hir5_8 (by kernel_rfl) (by kernel_rfl) (by kernel_rfl) ?hqr5_8 ?hyr5_8 (by assumption) ?restr5_8
                  case hir5_8 => simp only [List.getElem?_toArray, List.getElem?_cons_succ, List.getElem?_cons_zero]; rfl
                  case hqr5_8 => exact fun _ _ _ h => h
                  case hyr5_8 => (refine Or.inl ⟨by rfl, ?_⟩; intro w hSw; (try dsimp only at hSw); go_simp; all_goals with_reducible rfl)
                  try simp only [Act.put, List.setIfInBounds_toArray, List.set_cons_zero, List.set_cons_succ]
                  refine wpAnyH_take (i := 9) (oi := ?oir5_9) (v := ?vr5_9) ?hir5_9 (by kernel_rfl) (by kernel_rfl) (by kernel_rfl) ?hqr5_9 ?hyr5_9 (by assumption) ?restr5_9
                  case hir5_9 => simp only [List.getElem?_toArray, List.getElem?_cons_succ, List.getElem?_cons_zero]; rfl
                  case hqr5_9 => exact fun _ _ _ h => h
                  case hyr5_9 => (refine Or.inl ⟨by rfl, ?_⟩; intro w hSw; (try dsimp only at hSw); go_simp; all_goals with_reducible rfl)
                  try simp only [Act.put, List.setIfInBounds_toArray, List.set_cons_zero, List.set_cons_succ]
                  refine wpAnyH_take (i := 10) (oi := ?oir5_10) (v := ?vr5_10) ?hir5_10 (by kernel_rfl) (by kernel_rfl) (by kernel_rfl) ?hqr5_10 ?hyr5_10 (by assumption) ?restr5_10
                  case hir5_10 => simp only [List.getElem?_toArray, List.getElem?_cons_succ, List.getElem?_cons_zero]; rfl
                  case hqr5_10 => exact fun _ _ _ h => h
                  case hyr5_10 => (refine Or.inl ⟨by rfl, ?_⟩; intro w hSw; (try dsimp only at hSw); go_simp; all_goals with_reducible rfl)
                  try simp only [Act.put, List.setIfInBounds_toArray, List.set_cons_zero, List.set_cons_succ]
                  refine wpAnyH_take (i := 11) (oi := ?oir5_11) (v := ?vr5_11) ?hir5_11 (by kernel_rfl) (by kernel_rfl) (by kernel_rfl) ?hqr5_11 ?hyr5_11 (by assumption) ?restr5_11
                  case hir5_11 => simp only [List.getElem?_toArray, List.getElem?_cons_succ, List.getElem?_cons_zero]; rfl
                  case hqr5_11 => exact fun _ _ _ h => h
                  case hyr5_11 => (refine Or.inl ⟨by rfl, ?_⟩; intro w hSw; (try dsimp only at hSw); go_simp; all_goals with_reducible rfl)
                  try simp only [Act.put, List.setIfInBounds_toArray, List.set_cons_zero, List.set_cons_succ]
                  refine wpAnyH_take (i := 12) (oi := ?oir5_12) (v := ?vr5_12) ?hir5_12 (by kernel_rfl) (by kernel_rfl) (by kernel_rfl) ?hqr5_12 ?hyr5_12 (by assumption) ?restr5_12
                  case hir5_12 => simp only [List.getElem?_toArray, List.getElem?_cons_succ, List.getElem?_cons_zero]; rfl
                  case hqr5_12 => exact fun _ _ _ h => h
                  case hyr5_12 => (refine Or.inl ⟨by rfl, ?_⟩; intro w hSw; (try dsimp only at hSw); go_simp; all_goals with_reducible rfl)
                  try simp only [Act.put, List.setIfInBounds_toArray, List.set_cons_zero, List.set_cons_succ]
                  refine wpAnyH_take (i := 13) (oi := ?oir5_13) (v := ?vr5_13) ?hir5_13 (by kernel_rfl) (by kernel_rfl) (by kernel_rfl) ?hqr5_13 ?hyr5_13 (by assumption) ?restr5_13
                  case hir5_13 => simp only [List.getElem?_toArray, List.getElem?_cons_succ, List.getElem?_cons_zero]; rfl
                  case hqr5_13 => exact fun _ _ _ h => h
                  case hyr5_13 => (refine Or.inl ⟨by rfl, ?_⟩; intro w hSw; (try dsimp only at hSw); go_simp; all_goals with_reducible rfl)
                  try simp only [Act.put, List.setIfInBounds_toArray, List.set_cons_zero, List.set_cons_succ]
                  refine wpAnyH_take (i := 14) (oi := ?oir5_14) (v := ?vr5_14) ?hir5_14 (by kernel_rfl) (by kernel_rfl) (by kernel_rfl) ?hqr5_14 ?hyr5_14 (by assumption) ?restr5_14
                  case hir5_14 => simp only [List.getElem?_toArray, List.getElem?_cons_succ, List.getElem?_cons_zero]; rfl
                  case hqr5_14 => exact fun _ _ _ h => h
                  case hyr5_14 => (refine Or.inl ⟨by rfl, ?_⟩; intro w hSw; (try dsimp only at hSw); go_simp; all_goals with_reducible rfl)
                  try simp only [Act.put, List.setIfInBounds_toArray, List.set_cons_zero, List.set_cons_succ]
                  refine wpAnyH_take (i := 15) (oi := ?oir5_15) (v := ?vr5_15) ?hir5_15 (by kernel_rfl) (by kernel_rfl) (by kernel_rfl) ?hqr5_15 ?hyr5_15 (by assumption) ?restr5_15
                  case hir5_15 => simp only [List.getElem?_toArray, List.getElem?_cons_succ, List.getElem?_cons_zero]; rfl
                  case hqr5_15 => exact fun _ _ _ h => h
                  case hyr5_15 => (refine Or.inl ⟨by rfl, ?_⟩; intro w hSw; (try dsimp only at hSw); go_simp; all_goals with_reducible rfl)
                  try simp only [Act.put, List.setIfInBounds_toArray, List.set_cons_zero, List.set_cons_succ]
                  refine wpAnyH_take (i := 16) (oi := ?oir5_16) (v := ?vr5_16) ?hir5_16 (by kernel_rfl) (by kernel_rfl) (by kernel_rfl) ?hqr5_16 ?hyr5_16 (by assumption) ?restr5_16
                  case hir5_16 => simp only [List.getElem?_toArray, List.getElem?_cons_succ, List.getElem?_cons_zero]; rfl
                  case hqr5_16 => exact fun _ _ _ h => h
                  case hyr5_16 => (refine Or.inl ⟨by rfl, ?_⟩; intro w hSw; (try dsimp only at hSw); go_simp; all_goals with_reducible rfl)
                  try simp only [Act.put, List.setIfInBounds_toArray, List.set_cons_zero, List.set_cons_succ]
                  refine wpAnyH_take (i := 17) (oi := ?oir5_17) (v := ?vr5_17) ?hir5_17 (by kernel_rfl) (by kernel_rfl) (by kernel_rfl) ?hqr5_17 ?hyr5_17 (by assumption) ?restr5_17
                  case hir5_17 => simp only [List.getElem?_toArray, List.getElem?_cons_succ, List.getElem?_cons_zero]; rfl
                  case hqr5_17 => exact fun _ _ _ h => h
                  case hyr5_17 => (refine Or.inl ⟨by rfl, ?_⟩; intro w hSw; (try dsimp only at hSw); go_simp; all_goals with_reducible rfl)
                  try simp only [Act.put, List.setIfInBounds_toArray, List.set_cons_zero, List.set_cons_succ]
                  refine wpAnyH_take (i := 18) (oi := ?oir5_18) (v := ?vr5_18) ?hir5_18 (by kernel_rfl) (by kernel_rfl) (by kernel_rfl) ?hqr5_18 ?hyr5_18 (by assumption) ?restr5_18
                  case hir5_18 => simp only [List.getElem?_toArray, List.getElem?_cons_succ, List.getElem?_cons_zero]; rfl
                  case hqr5_18 => exact fun _ _ _ h => h
                  case hyr5_18 => (refine Or.inl ⟨by rfl, ?_⟩; intro w hSw; (try dsimp only at hSw); go_simp; all_goals with_reducible rfl)
                  try simp only [Act.put, List.setIfInBounds_toArray, List.set_cons_zero, List.set_cons_succ]
                  refine wpAnyH_take (i := 19) (oi := ?oir5_19) (v := ?vr5_19) ?hir5_19 (by kernel_rfl) (by kernel_rfl) (by kernel_rfl) ?hqr5_19 ?hyr5_19 (by assumption) ?restr5_19
                  case hir5_19 => simp only [List.getElem?_toArray, List.getElem?_cons_succ, List.getElem?_cons_zero]; rfl
                  case hqr5_19 => exact fun _ _ _ h => h
                  case hyr5_19 => (refine Or.inl ⟨by rfl, ?_⟩; intro w hSw; (try dsimp only at hSw); go_simp; all_goals with_reducible rfl)
                  try simp only [Act.put, List.setIfInBounds_toArray, List.set_cons_zero, List.set_cons_succ]
                  refine wpAnyH_take (i := 20) (oi := ?oir5_20) (v := ?vr5_20) ?hir5_20 (by kernel_rfl) (by kernel_rfl) (by kernel_rfl) ?hqr5_20 ?hyr5_20 (by assumption) ?restr5_20
                  case hir5_20 => simp only [List.getElem?_toArray, List.getElem?_cons_succ, List.getElem?_cons_zero]; rfl
                  case hqr5_20 => exact fun _ _ _ h => h
                  case hyr5_20 => (refine Or.inl ⟨by rfl, ?_⟩; intro w hSw; (try dsimp only at hSw); go_simp; all_goals with_reducible rfl)
                  try simp only [Act.put, List.setIfInBounds_toArray, List.set_cons_zero, List.set_cons_succ]
                  refine wpAnyH_take (i := 21) (oi := ?oir5_21) (v := ?vr5_21) ?hir5_21 (by kernel_rfl) (by kernel_rfl) (by kernel_rfl) ?hqr5_21 ?hyr5_21 (by assumption) ?restr5_21
                  case hir5_21 => simp only [List.getElem?_toArray, List.getElem?_cons_succ, List.getElem?_cons_zero]; rfl
                  case hqr5_21 => exact fun _ _ _ h => h
                  case hyr5_21 => (refine Or.inl ⟨by rfl, ?_⟩; intro w hSw; (try dsimp only at hSw); go_simp; all_goals with_reducible rfl)
                  try simp only [Act.put, List.setIfInBounds_toArray, List.set_cons_zero, List.set_cons_succ]
                  refine wpAnyH_take (i := 22) (oi := ?oir5_22) (v := ?vr5_22) ?hir5_22 (by kernel_rfl) (by kernel_rfl) (by kernel_rfl) ?hqr5_22 ?hyr5_22 (by assumption) ?restr5_22
                  case hir5_22 => simp only [List.getElem?_toArray, List.getElem?_cons_succ, List.getElem?_cons_zero]; rfl
                  case hqr5_22 => exact fun _ _ _ h => h
                  case hyr5_22 => (refine Or.inl ⟨by rfl, ?_⟩; intro w hSw; (try dsimp only at hSw); go_simp; all_goals with_reducible rfl)
                  try simp only [Act.put, List.setIfInBounds_toArray, List.set_cons_zero, List.set_cons_succ]
                  refine wpAnyH_take (i := 23) (oi := ?oir5_23) (v := ?vr5_23) ?hir5_23 (by kernel_rfl) (by kernel_rfl) (by kernel_rfl) ?hqr5_23 ?hyr5_23 (by assumption) ?restr5_23
                  case hir5_23 => simp only [List.getElem?_toArray, List.getElem?_cons_succ, List.getElem?_cons_zero]; rfl
                  case hqr5_23 => exact fun _ _ _ h => h
                  case hyr5_23 => (refine Or.inl ⟨by rfl, ?_⟩; intro w hSw; (try dsimp only at hSw); go_simp; all_goals with_reducible rfl)
                  try simp only [Act.put, List.setIfInBounds_toArray, List.set_cons_zero, List.set_cons_succ]
                  refine wpAnyH_take (i := 24) (oi := ?oir5_24) (v := ?vr5_24) ?hir5_24 (by kernel_rfl) (by kernel_rfl) (by kernel_rfl) ?hqr5_24 ?hyr5_24 (by assumption) ?restr5_24
                  case hir5_24 => simp only [List.getElem?_toArray, List.getElem?_cons_succ, List.getElem?_cons_zero]; rfl
                  case hqr5_24 => exact fun _ _ _ h => h
                  case hyr5_24 => (refine Or.inl ⟨by rfl, ?_⟩; intro w hSw; (try dsimp only at hSw); go_simp; all_goals with_reducible rfl)
                  try simp only [Act.put, List.setIfInBounds_toArray, List.set_cons_zero, List.set_cons_succ]
                  refine wpAnyH_take (i := 25) (oi := ?oir5_25) (v := ?vr5_25) ?hir5_25 (by kernel_rfl) (by kernel_rfl) (by kernel_rfl) ?hqr5_25 ?hyr5_25 (by assumption) ?restr5_25
                  case hir5_25 => simp only [List.getElem?_toArray, List.getElem?_cons_succ, List.getElem?_cons_zero]; rfl
                  case hqr5_25 => exact fun _ _ _ h => h
                  case hyr5_25 => (refine Or.inl ⟨by rfl, ?_⟩; intro w hSw; (try dsimp only at hSw); go_simp; all_goals with_reducible rfl)
                  try simp only [Act.put, List.setIfInBounds_toArray, List.set_cons_zero, List.set_cons_succ]
                  refine wpAnyH_take (i := 26) (oi := ?oir5_26) (v := ?vr5_26) ?hir5_26 (by kernel_rfl) (by kernel_rfl) (by kernel_rfl) ?hqr5_26 ?hyr5_26 (by assumption) ?restr5_26
                  case hir5_26 => simp only [List.getElem?_toArray, List.getElem?_cons_succ, List.getElem?_cons_zero]; rfl
                  case hqr5_26 => exact fun _ _ _ h => h
                  case hyr5_26 => (refine Or.inl ⟨by rfl, ?_⟩; intro w hSw; (try dsimp only at hSw); go_simp; all_goals with_reducible rfl)
                  try simp only [Act.put, List.setIfInBounds_toArray, List.set_cons_zero, List.set_cons_succ]
                  refine wpAnyH_take (i := 27) (oi := ?oir5_27) (v := ?vr5_27) ?hir5_27 (by kernel_rfl) (by kernel_rfl) (by kernel_rfl) ?hqr5_27 ?hyr5_27 (by assumption) ?restr5_27
                  case hir5_27 => simp only [List.getElem?_toArray, List.getElem?_cons_succ, List.getElem?_cons_zero]; rfl
                  case hqr5_27 => exact fun _ _ _ h => h
                  case hyr5_27 => (refine Or.inl ⟨by rfl, ?_⟩; intro w hSw; (try dsimp only at hSw); go_simp; all_goals with_reducible rfl)
                  try simp only [Act.put, List.setIfInBounds_toArray, List.set_cons_zero, List.set_cons_succ]
                  refine wpAnyH_take (i := 28) (oi := ?oir5_28) (v := ?vr5_28) ?hir5_28 (by kernel_rfl) (by kernel_rfl) (by kernel_rfl) ?hqr5_28 ?hyr5_28 (by assumption) ?restr5_28
                  case hir5_28 => simp only [List.getElem?_toArray, List.getElem?_cons_succ, List.getElem?_cons_zero]; rfl
                  case hqr5_28 => exact fun _ _ _ h => h
                  case hyr5_28 => (refine Or.inl ⟨by rfl, ?_⟩; intro w hSw; (try dsimp only at hSw); go_simp; all_goals with_reducible rfl)
                  try simp only [Act.put, List.setIfInBounds_toArray, List.set_cons_zero, List.set_cons_succ]
                  refine wpAnyH_take (i := 29) (oi := ?oir5_29) (v := ?vr5_29) ?hir5_29 (by kernel_rfl) (by kernel_rfl) (by kernel_rfl) ?hqr5_29 ?hyr5_29 (by assumption) ?restr5_29
                  case hir5_29 => simp only [List.getElem?_toArray, List.getElem?_cons_succ, List.getElem?_cons_zero]; rfl
                  case hqr5_29 => exact fun _ _ _ h => h
                  case hyr5_29 => (refine Or.inl ⟨by rfl, ?_⟩; intro w hSw; (try dsimp only at hSw); go_simp; all_goals with_reducible rfl)
                  try simp only [Act.put, List.setIfInBounds_toArray, List.set_cons_zero, List.set_cons_succ]
                  refine wpAnyH_take (i := 30) (oi := ?oir5_30) (v := ?vr5_30) ?hir5_30 (by kernel_rfl) (by kernel_rfl) (by kernel_rfl) ?hqr5_30 ?hyr5_30 (by assumption) ?restr5_30
                  case hir5_30 => simp only [List.getElem?_toArray, List.getElem?_cons_succ, List.getElem?_cons_zero]; rfl
                  case hqr5_30 => exact fun _ _ _ h => h
                  case hyr5_30 => (refine Or.inl ⟨by rfl, ?_⟩; intro w hSw; (try dsimp only at hSw); go_simp; all_goals with_reducible rfl)
                  try simp only [Act.put, List.setIfInBounds_toArray, List.set_cons_zero, List.set_cons_succ]
                  refine wpAnyH_take (i := 31) (oi := ?oir5_31) (v := ?vr5_31) ?hir5_31 (by kernel_rfl) (by kernel_rfl) (by kernel_rfl) ?hqr5_31 ?hyr5_31 (by assumption) ?restr5_31
                  case hir5_31 => simp only [List.getElem?_toArray, List.getElem?_cons_succ, List.getElem?_cons_zero]; rfl
                  case hqr5_31 => exact fun _ _ _ h => h
                  case hyr5_31 => (refine Or.inl ⟨by rfl, ?_⟩; intro w hSw; (try dsimp only at hSw); go_simp; all_goals with_reducible rfl)
                  try simp only [Act.put, List.setIfInBounds_toArray, List.set_cons_zero, List.set_cons_succ]
                  refine wpAnyH_take (i := 32) (oi := ?oir5_32) (v := ?vr5_32) ?hir5_32 (by kernel_rfl) (by kernel_rfl) (by kernel_rfl) ?hqr5_32 ?hyr5_32 (by assumption) ?restr5_32
                  case hir5_32 => simp only [List.getElem?_toArray, List.getElem?_cons_succ, List.getElem?_cons_zero]; rfl
                  case hqr5_32 => exact fun _ _ _ h => h
                  case hyr5_32 => (refine Or.inl ⟨by rfl, ?_⟩; intro w hSw; (try dsimp only at hSw); go_simp; all_goals with_reducible rfl)
                  try simp only [Act.put, List.setIfInBounds_toArray, List.set_cons_zero, List.set_cons_succ]
                  refine wpAnyH_take (i := 33) (oi := ?oir5_33) (v := ?vr5_33) ?hir5_33 (by kernel_rfl) (by kernel_rfl) (by kernel_rfl) ?hqr5_33 ?hyr5_33 (by assumption) ?restr5_33
                  case hir5_33 => simp only [List.getElem?_toArray, List.getElem?_cons_succ, List.getElem?_cons_zero]; rfl
                  case hqr5_33 => exact fun _ _ _ h => h
                  case hyr5_33 => (refine Or.inl ⟨by rfl, ?_⟩; intro w hSw; (try dsimp only at hSw); go_simp; all_goals with_reducible rfl)
                  try simp only [Act.put, List.setIfInBounds_toArray, List.set_cons_zero, List.set_cons_succ]
                  refine wpAnyH_done (by kernel_rfl) ?_ _
                  clear hHeld kv l0 n0 l1 n1
                  go_wp2_with fail
                  go_roundw
                  case rel => exact ⟨k + 1, by omega, by go_num, B901⟩
                  case measure => simp [intOf]; omega
                case neg =>
                  have pe : (((p : Nat) : Int) == 3) = false := by simp; omega
                  have pd : decide (((p : Nat) : Int) = 3) = false := decide_eq_false (by omega)
                  have qe : (((q : Nat) : Int) == 3) = false := by simp; omega
                  have qd : decide (((q : Nat) : Int) = 3) = false := decide_eq_false (by omega)
                  obtain rfl : v = 0 := by rw [if_neg hp3, if_neg hq3] at i3; omega
                  clear i3 hp3 hq3
                  go_upto_region 26 with fail
                  clear l2 n2
                  have hb := (Below.refl wz.heap.size wz).drew
                  replace kv := cell_below hb kv
                  replace l0 := cell_below hb l0
                  replace n0 := cell_below hb n0
                  replace l1 := cell_below hb l1
                  replace n1 := cell_below hb n1
                  have B901 := B900.trans (hb.mono B900.size)
                  have h_l_901 := h_l_900.below hb
                  have h_n_901 := h_n_900.below hb
                  have h_v_901 := h_v_900.below hb
                  clear hb B900 h_l_900 h_n_900 h_v_900
                  refine wp_region_held_drew (S := (fun w' => w'.cell? ⟨g, k, none⟩ = some (.int .i64 ((0 : Nat) : Int)) ∧ w'.cell? ⟨bl, ol + k * 3, none⟩ = some (.string nmk) ∧ w'.cell? ⟨bn, on + k * 3, none⟩ = some (.string nmk) ∧ w'.cell? ⟨bl, ol + k * 3 + 1, none⟩ = some (.int .i64 pck) ∧ w'.cell? ⟨bn, on + k * 3 + 1, none⟩ = some (.int .i64 pck) ∧ True)) (by kernel_rfl) ?_ (fun hHeld => ?_)
                  · exact ⟨kv, l0, n0, l1, n1, trivial⟩
                  generalize wz.drew = w901 at *
                  refine wpAnyH_take (i := 0) (oi := ?oir6_0) (v := ?vr6_0) ?hir6_0 (by kernel_rfl) (by kernel_rfl) (by kernel_rfl) ?hqr6_0 ?hyr6_0 (by assumption) ?restr6_0
                  case hir6_0 => simp only [List.getElem?_toArray, List.getElem?_cons_succ, List.getElem?_cons_zero]; rfl
                  case hqr6_0 => exact fun _ _ _ h => h
                  case hyr6_0 => (refine Or.inl ⟨by rfl, ?_⟩; intro w hSw; (try dsimp only at hSw); go_simp; all_goals with_reducible rfl)
                  try simp only [Act.put, List.setIfInBounds_toArray, List.set_cons_zero, List.set_cons_succ]
                  refine wpAnyH_take (i := 1) (oi := ?oir6_1) (v := ?vr6_1) ?hir6_1 (by kernel_rfl) (by kernel_rfl) (by kernel_rfl) ?hqr6_1 ?hyr6_1 (by assumption) ?restr6_1
                  case hir6_1 => simp only [List.getElem?_toArray, List.getElem?_cons_succ, List.getElem?_cons_zero]; rfl
                  case hqr6_1 => exact fun _ _ _ h => h
                  case hyr6_1 => (refine Or.inl ⟨by rfl, ?_⟩; intro w hSw; (try dsimp only at hSw); go_simp; all_goals with_reducible rfl)
                  try simp only [Act.put, List.setIfInBounds_toArray, List.set_cons_zero, List.set_cons_succ]
                  refine wpAnyH_take (i := 2) (oi := ?oir6_2) (v := ?vr6_2) ?hir6_2 (by kernel_rfl) (by kernel_rfl) (by kernel_rfl) ?hqr6_2 ?hyr6_2 (by assumption) ?restr6_2
                  case hir6_2 => simp only [List.getElem?_toArray, List.getElem?_cons_succ, List.getElem?_cons_zero]; rfl
                  case hqr6_2 => exact fun _ _ _ h => h
                  case hyr6_2 => (refine Or.inl ⟨by rfl, ?_⟩; intro w hSw; (try dsimp only at hSw); go_simp; all_goals with_reducible rfl)
                  try simp only [Act.put, List.setIfInBounds_toArray, List.set_cons_zero, List.set_cons_succ]
                  refine wpAnyH_take (i := 3) (oi := ?oir6_3) (v := ?vr6_3) ?hir6_3 (by kernel_rfl) (by kernel_rfl) (by kernel_rfl) ?hqr6_3 ?hyr6_3 (by assumption) ?restr6_3
                  case hir6_3 => simp only [List.getElem?_toArray, List.getElem?_cons_succ, List.getElem?_cons_zero]; rfl
                  case hqr6_3 => exact fun _ _ _ h => h
                  case hyr6_3 => (refine Or.inl ⟨by rfl, ?_⟩; intro w hSw; (try dsimp only at hSw); go_simp; all_goals with_reducible rfl)
                  try simp only [Act.put, List.setIfInBounds_toArray, List.set_cons_zero, List.set_cons_succ]
                  refine wpAnyH_take (i := 4) (oi := ?oir6_4) (v := ?vr6_4) ?hir6_4 (by kernel_rfl) (by kernel_rfl) (by kernel_rfl) ?hqr6_4 ?hyr6_4 (by assumption) ?restr6_4
                  case hir6_4 => simp only [List.getElem?_toArray, List.getElem?_cons_succ, List.getElem?_cons_zero]; rfl
                  case hqr6_4 => exact fun _ _ _ h => h
                  case hyr6_4 => (refine Or.inl ⟨by rfl, ?_⟩; intro w hSw; (try dsimp only at hSw); go_simp; all_goals with_reducible rfl)
                  try simp only [Act.put, List.setIfInBounds_toArray, List.set_cons_zero, List.set_cons_succ]
                  refine wpAnyH_take (i := 5) (oi := ?oir6_5) (v := ?vr6_5) ?hir6_5 (by kernel_rfl) (by kernel_rfl) (by kernel_rfl) ?hqr6_5 ?hyr6_5 (by assumption) ?restr6_5
                  case hir6_5 => simp only [List.getElem?_toArray, List.getElem?_cons_succ, List.getElem?_cons_zero]; rfl
                  case hqr6_5 => exact fun _ _ _ h => h
                  case hyr6_5 => (refine Or.inl ⟨by rfl, ?_⟩; intro w hSw; (try dsimp only at hSw); go_simp; all_goals with_reducible rfl)
                  try simp only [Act.put, List.setIfInBounds_toArray, List.set_cons_zero, List.set_cons_succ]
                  refine wpAnyH_take (i := 6) (oi := ?oir6_6) (v := ?vr6_6) ?hir6_6 (by kernel_rfl) (by kernel_rfl) (by kernel_rfl) ?hqr6_6 ?hyr6_6 (by assumption) ?restr6_6
                  case hir6_6 => simp only [List.getElem?_toArray, List.getElem?_cons_succ, List.getElem?_cons_zero]; rfl
                  case hqr6_6 => exact fun _ _ _ h => h
                  case hyr6_6 => (refine Or.inl ⟨by rfl, ?_⟩; intro w hSw; (try dsimp only at hSw); go_simp; all_goals with_reducible rfl)
                  try simp only [Act.put, List.setIfInBounds_toArray, List.set_cons_zero, List.set_cons_succ]
                  refine wpAnyH_take (i := 7) (oi := ?oir6_7) (v := ?vr6_7) ?hir6_7 (by kernel_rfl) (by kernel_rfl) (by kernel_rfl) ?hqr6_7 ?hyr6_7 (by assumption) ?restr6_7
                  case hir6_7 => simp only [List.getElem?_toArray, List.getElem?_cons_succ, List.getElem?_cons_zero]; rfl
                  case hqr6_7 => exact fun _ _ _ h => h
                  case hyr6_7 => (refine Or.inl ⟨by rfl, ?_⟩; intro w hSw; (try dsimp only at hSw); go_simp; all_goals with_reducible rfl)
                  try simp only [Act.put, List.setIfInBounds_toArray, List.set_cons_zero, List.set_cons_succ]
                  refine wpAnyH_take (i := 8) (oi := ?oir6_8) (v := ?vr6_8) ?hir6_8 (by kernel_rfl) (by kernel_rfl) (by kernel_rfl) ?hqr6_8 ?hyr6_8 (by assumption) ?restr6_8
                  case hir6_8 => simp only [List.getElem?_toArray, List.getElem?_cons_succ, List.getElem?_cons_zero]; rfl
                  case hqr6_8 => exact fun _ _ _ h => h
                  case hyr6_8 => (refine Or.inl ⟨by rfl, ?_⟩; intro w hSw; (try dsimp only at hSw); go_simp; all_goals with_reducible rfl)
                  try simp only [Act.put, List.setIfInBounds_toArray, List.set_cons_zero, List.set_cons_succ]
                  refine wpAnyH_take (i := 9) (oi := ?oir6_9) (v := ?vr6_9) ?hir6_9 (by kernel_rfl) (by kernel_rfl) (by kernel_rfl) ?hqr6_9 ?hyr6_9 (by assumption) ?restr6_9
                  case hir6_9 => simp only [List.getElem?_toArray, List.getElem?_cons_succ, List.getElem?_cons_zero]; rfl
                  case hqr6_9 => exact fun _ _ _ h => h
                  case hyr6_9 => (refine Or.inl ⟨by rfl, ?_⟩; intro w hSw; (try dsimp only at hSw); go_simp; all_goals with_reducible rfl)
                  try simp only [Act.put, List.setIfInBounds_toArray, List.set_cons_zero, List.set_cons_succ]
                  refine wpAnyH_take (i := 10) (oi := ?oir6_10) (v := ?vr6_10) ?hir6_10 (by kernel_rfl) (by kernel_rfl) (by kernel_rfl) ?hqr6_10 ?hyr6_10 (by assumption) ?restr6_10
                  case hir6_10 => simp only [List.getElem?_toArray, List.getElem?_cons_succ, List.getElem?_cons_zero]; rfl
                  case hqr6_10 => exact fun _ _ _ h => h
                  case hyr6_10 => (refine Or.inl ⟨by rfl, ?_⟩; intro w hSw; (try dsimp only at hSw); go_simp; all_goals with_reducible rfl)
                  try simp only [Act.put, List.setIfInBounds_toArray, List.set_cons_zero, List.set_cons_succ]
                  refine wpAnyH_take (i := 11) (oi := ?oir6_11) (v := ?vr6_11) ?hir6_11 (by kernel_rfl) (by kernel_rfl) (by kernel_rfl) ?hqr6_11 ?hyr6_11 (by assumption) ?restr6_11
                  case hir6_11 => simp only [List.getElem?_toArray, List.getElem?_cons_succ, List.getElem?_cons_zero]; rfl
                  case hqr6_11 => exact fun _ _ _ h => h
                  case hyr6_11 => (refine Or.inl ⟨by rfl, ?_⟩; intro w hSw; (try dsimp only at hSw); go_simp; all_goals with_reducible rfl)
                  try simp only [Act.put, List.setIfInBounds_toArray, List.set_cons_zero, List.set_cons_succ]
                  refine wpAnyH_take (i := 12) (oi := ?oir6_12) (v := ?vr6_12) ?hir6_12 (by kernel_rfl) (by kernel_rfl) (by kernel_rfl) ?hqr6_12 ?hyr6_12 (by assumption) ?restr6_12
                  case hir6_12 => simp only [List.getElem?_toArray, List.getElem?_cons_succ, List.getElem?_cons_zero]; rfl
                  case hqr6_12 => exact fun _ _ _ h => h
                  case hyr6_12 => (refine Or.inl ⟨by rfl, ?_⟩; intro w hSw; (try dsimp only at hSw); go_simp; all_goals with_reducible rfl)
                  try simp only [Act.put, List.setIfInBounds_toArray, List.set_cons_zero, List.set_cons_succ]
                  refine wpAnyH_take (i := 13) (oi := ?oir6_13) (v := ?vr6_13) ?hir6_13 (by kernel_rfl) (by kernel_rfl) (by kernel_rfl) ?hqr6_13 ?hyr6_13 (by assumption) ?restr6_13
                  case hir6_13 => simp only [List.getElem?_toArray, List.getElem?_cons_succ, List.getElem?_cons_zero]; rfl
                  case hqr6_13 => exact fun _ _ _ h => h
                  case hyr6_13 => (refine Or.inl ⟨by rfl, ?_⟩; intro w hSw; (try dsimp only at hSw); go_simp; all_goals with_reducible rfl)
                  try simp only [Act.put, List.setIfInBounds_toArray, List.set_cons_zero, List.set_cons_succ]
                  refine wpAnyH_take (i := 14) (oi := ?oir6_14) (v := ?vr6_14) ?hir6_14 (by kernel_rfl) (by kernel_rfl) (by kernel_rfl) ?hqr6_14 ?hyr6_14 (by assumption) ?restr6_14
                  case hir6_14 => simp only [List.getElem?_toArray, List.getElem?_cons_succ, List.getElem?_cons_zero]; rfl
                  case hqr6_14 => exact fun _ _ _ h => h
                  case hyr6_14 => (refine Or.inl ⟨by rfl, ?_⟩; intro w hSw; (try dsimp only at hSw); go_simp; all_goals with_reducible rfl)
                  try simp only [Act.put, List.setIfInBounds_toArray, List.set_cons_zero, List.set_cons_succ]
                  refine wpAnyH_take (i := 15) (oi := ?oir6_15) (v := ?vr6_15) ?hir6_15 (by kernel_rfl) (by kernel_rfl) (by kernel_rfl) ?hqr6_15 ?hyr6_15 (by assumption) ?restr6_15
                  case hir6_15 => simp only [List.getElem?_toArray, List.getElem?_cons_succ, List.getElem?_cons_zero]; rfl
                  case hqr6_15 => exact fun _ _ _ h => h
                  case hyr6_15 => (refine Or.inl ⟨by rfl, ?_⟩; intro w hSw; (try dsimp only at hSw); go_simp; all_goals with_reducible rfl)
                  try simp only [Act.put, List.setIfInBounds_toArray, List.set_cons_zero, List.set_cons_succ]
                  refine wpAnyH_take (i := 16) (oi := ?oir6_16) (v := ?vr6_16) ?hir6_16 (by kernel_rfl) (by kernel_rfl) (by kernel_rfl) ?hqr6_16 ?hyr6_16 (by assumption) ?restr6_16
                  case hir6_16 => simp only [List.getElem?_toArray, List.getElem?_cons_succ, List.getElem?_cons_zero]; rfl
                  case hqr6_16 => exact fun _ _ _ h => h
                  case hyr6_16 => (refine Or.inl ⟨by rfl, ?_⟩; intro w hSw; (try dsimp only at hSw); go_simp; all_goals with_reducible rfl)
                  try simp only [Act.put, List.setIfInBounds_toArray, List.set_cons_zero, List.set_cons_succ]
                  refine wpAnyH_take (i := 17) (oi := ?oir6_17) (v := ?vr6_17) ?hir6_17 (by kernel_rfl) (by kernel_rfl) (by kernel_rfl) ?hqr6_17 ?hyr6_17 (by assumption) ?restr6_17
                  case hir6_17 => simp only [List.getElem?_toArray, List.getElem?_cons_succ, List.getElem?_cons_zero]; rfl
                  case hqr6_17 => exact fun _ _ _ h => h
                  case hyr6_17 => (refine Or.inl ⟨by rfl, ?_⟩; intro w hSw; (try dsimp only at hSw); go_simp; all_goals with_reducible rfl)
                  try simp only [Act.put, List.setIfInBounds_toArray, List.set_cons_zero, List.set_cons_succ]
                  refine wpAnyH_take (i := 18) (oi := ?oir6_18) (v := ?vr6_18) ?hir6_18 (by kernel_rfl) (by kernel_rfl) (by kernel_rfl) ?hqr6_18 ?hyr6_18 (by assumption) ?restr6_18
                  case hir6_18 => simp only [List.getElem?_toArray, List.getElem?_cons_succ, List.getElem?_cons_zero]; rfl
                  case hqr6_18 => exact fun _ _ _ h => h
                  case hyr6_18 => (refine Or.inl ⟨by rfl, ?_⟩; intro w hSw; (try dsimp only at hSw); go_simp; all_goals with_reducible rfl)
                  try simp only [Act.put, List.setIfInBounds_toArray, List.set_cons_zero, List.set_cons_succ]
                  refine wpAnyH_take (i := 19) (oi := ?oir6_19) (v := ?vr6_19) ?hir6_19 (by kernel_rfl) (by kernel_rfl) (by kernel_rfl) ?hqr6_19 ?hyr6_19 (by assumption) ?restr6_19
                  case hir6_19 => simp only [List.getElem?_toArray, List.getElem?_cons_succ, List.getElem?_cons_zero]; rfl
                  case hqr6_19 => exact fun _ _ _ h => h
                  case hyr6_19 => (refine Or.inl ⟨by rfl, ?_⟩; intro w hSw; (try dsimp only at hSw); go_simp; all_goals with_reducible rfl)
                  try simp only [Act.put, List.setIfInBounds_toArray, List.set_cons_zero, List.set_cons_succ]
                  refine wpAnyH_take (i := 20) (oi := ?oir6_20) (v := ?vr6_20) ?hir6_20 (by kernel_rfl) (by kernel_rfl) (by kernel_rfl) ?hqr6_20 ?hyr6_20 (by assumption) ?restr6_20
                  case hir6_20 => simp only [List.getElem?_toArray, List.getElem?_cons_succ, List.getElem?_cons_zero]; rfl
                  case hqr6_20 => exact fun _ _ _ h => h
                  case hyr6_20 => (refine Or.inl ⟨by rfl, ?_⟩; intro w hSw; (try dsimp only at hSw); go_simp; all_goals with_reducible rfl)
                  try simp only [Act.put, List.setIfInBounds_toArray, List.set_cons_zero, List.set_cons_succ]
                  refine wpAnyH_take (i := 21) (oi := ?oir6_21) (v := ?vr6_21) ?hir6_21 (by kernel_rfl) (by kernel_rfl) (by kernel_rfl) ?hqr6_21 ?hyr6_21 (by assumption) ?restr6_21
                  case hir6_21 => simp only [List.getElem?_toArray, List.getElem?_cons_succ, List.getElem?_cons_zero]; rfl
                  case hqr6_21 => exact fun _ _ _ h => h
                  case hyr6_21 => (refine Or.inl ⟨by rfl, ?_⟩; intro w hSw; (try dsimp only at hSw); go_simp; all_goals with_reducible rfl)
                  try simp only [Act.put, List.setIfInBounds_toArray, List.set_cons_zero, List.set_cons_succ]
                  refine wpAnyH_take (i := 22) (oi := ?oir6_22) (v := ?vr6_22) ?hir6_22 (by kernel_rfl) (by kernel_rfl) (by kernel_rfl) ?hqr6_22 ?hyr6_22 (by assumption) ?restr6_22
                  case hir6_22 => simp only [List.getElem?_toArray, List.getElem?_cons_succ, List.getElem?_cons_zero]; rfl
                  case hqr6_22 => exact fun _ _ _ h => h
                  case hyr6_22 => (refine Or.inl ⟨by rfl, ?_⟩; intro w hSw; (try dsimp only at hSw); go_simp; all_goals with_reducible rfl)
                  try simp only [Act.put, List.setIfInBounds_toArray, List.set_cons_zero, List.set_cons_succ]
                  refine wpAnyH_take (i := 23) (oi := ?oir6_23) (v := ?vr6_23) ?hir6_23 (by kernel_rfl) (by kernel_rfl) (by kernel_rfl) ?hqr6_23 ?hyr6_23 (by assumption) ?restr6_23
                  case hir6_23 => simp only [List.getElem?_toArray, List.getElem?_cons_succ, List.getElem?_cons_zero]; rfl
                  case hqr6_23 => exact fun _ _ _ h => h
                  case hyr6_23 => (refine Or.inl ⟨by rfl, ?_⟩; intro w hSw; (try dsimp only at hSw); go_simp; all_goals with_reducible rfl)
                  try simp only [Act.put, List.setIfInBounds_toArray, List.set_cons_zero, List.set_cons_succ]
                  refine wpAnyH_take (i := 24) (oi := ?oir6_24) (v := ?vr6_24) ?hir6_24 (by kernel_rfl) (by kernel_rfl) (by kernel_rfl) ?hqr6_24 ?hyr6_24 (by assumption) ?restr6_24
                  case hir6_24 => simp only [List.getElem?_toArray, List.getElem?_cons_succ, List.getElem?_cons_zero]; rfl
                  case hqr6_24 => exact fun _ _ _ h => h
                  case hyr6_24 => (refine Or.inl ⟨by rfl, ?_⟩; intro w hSw; (try dsimp only at hSw); go_simp; all_goals with_reducible rfl)
                  try simp only [Act.put, List.setIfInBounds_toArray, List.set_cons_zero, List.set_cons_succ]
                  refine wpAnyH_take (i := 25) (oi := ?oir6_25) (v := ?vr6_25) ?hir6_25 (by kernel_rfl) (by kernel_rfl) (by kernel_rfl) ?hqr6_25 ?hyr6_25 (by assumption) ?restr6_25
                  case hir6_25 => simp only [List.getElem?_toArray, List.getElem?_cons_succ, List.getElem?_cons_zero]; rfl
                  case hqr6_25 => exact fun _ _ _ h => h
                  case hyr6_25 => (refine Or.inl ⟨by rfl, ?_⟩; intro w hSw; (try dsimp only at hSw); go_simp; all_goals with_reducible rfl)
                  try simp only [Act.put, List.setIfInBounds_toArray, List.set_cons_zero, List.set_cons_succ]
                  refine wpAnyH_take (i := 26) (oi := ?oir6_26) (v := ?vr6_26) ?hir6_26 (by kernel_rfl) (by kernel_rfl) (by kernel_rfl) ?hqr6_26 ?hyr6_26 (by assumption) ?restr6_26
                  case hir6_26 => simp only [List.getElem?_toArray, List.getElem?_cons_succ, List.getElem?_cons_zero]; rfl
                  case hqr6_26 => exact fun _ _ _ h => h
                  case hyr6_26 => (refine Or.inl ⟨by rfl, ?_⟩; intro w hSw; (try dsimp only at hSw); go_simp; all_goals with_reducible rfl)
                  try simp only [Act.put, List.setIfInBounds_toArray, List.set_cons_zero, List.set_cons_succ]
                  refine wpAnyH_take (i := 27) (oi := ?oir6_27) (v := ?vr6_27) ?hir6_27 (by kernel_rfl) (by kernel_rfl) (by kernel_rfl) ?hqr6_27 ?hyr6_27 (by assumption) ?restr6_27
                  case hir6_27 => simp only [List.getElem?_toArray, List.getElem?_cons_succ, List.getElem?_cons_zero]; rfl
                  case hqr6_27 => exact fun _ _ _ h => h
                  case hyr6_27 => (refine Or.inl ⟨by rfl, ?_⟩; intro w hSw; (try dsimp only at hSw); go_simp; all_goals with_reducible rfl)
                  try simp only [Act.put, List.setIfInBounds_toArray, List.set_cons_zero, List.set_cons_succ]
                  refine wpAnyH_take (i := 28) (oi := ?oir6_28) (v := ?vr6_28) ?hir6_28 (by kernel_rfl) (by kernel_rfl) (by kernel_rfl) ?hqr6_28 ?hyr6_28 (by assumption) ?restr6_28
                  case hir6_28 => simp only [List.getElem?_toArray, List.getElem?_cons_succ, List.getElem?_cons_zero]; rfl
                  case hqr6_28 => exact fun _ _ _ h => h
                  case hyr6_28 => (refine Or.inl ⟨by rfl, ?_⟩; intro w hSw; (try dsimp only at hSw); go_simp; all_goals with_reducible rfl)
                  try simp only [Act.put, List.setIfInBounds_toArray, List.set_cons_zero, List.set_cons_succ]
                  refine wpAnyH_take (i := 29) (oi := ?oir6_29) (v := ?vr6_29) ?hir6_29 (by kernel_rfl) (by kernel_rfl) (by kernel_rfl) ?hqr6_29 ?hyr6_29 (by assumption) ?restr6_29
                  case hir6_29 => simp only [List.getElem?_toArray, List.getElem?_cons_succ, List.getElem?_cons_zero]; rfl
                  case hqr6_29 => exact fun _ _ _ h => h
                  case hyr6_29 => (refine Or.inl ⟨by rfl, ?_⟩; intro w hSw; (try dsimp only at hSw); go_simp; all_goals with_reducible rfl)
                  try simp only [Act.put, List.setIfInBounds_toArray, List.set_cons_zero, List.set_cons_succ]
                  refine wpAnyH_take (i := 30) (oi := ?oir6_30) (v := ?vr6_30) ?hir6_30 (by kernel_rfl) (by kernel_rfl) (by kernel_rfl) ?hqr6_30 ?hyr6_30 (by assumption) ?restr6_30
                  case hir6_30 => simp only [List.getElem?_toArray, List.getElem?_cons_succ, List.getElem?_cons_zero]; rfl
                  case hqr6_30 => exact fun _ _ _ h => h
                  case hyr6_30 => (refine Or.inl ⟨by rfl, ?_⟩; intro w hSw; (try dsimp only at hSw); go_simp; all_goals with_reducible rfl)
                  try simp only [Act.put, List.setIfInBounds_toArray, List.set_cons_zero, List.set_cons_succ]
                  refine wpAnyH_take (i := 31) (oi := ?oir6_31) (v := ?vr6_31) ?hir6_31 (by kernel_rfl) (by kernel_rfl) (by kernel_rfl) ?hqr6_31 ?hyr6_31 (by assumption) ?restr6_31
                  case hir6_31 => simp only [List.getElem?_toArray, List.getElem?_cons_succ, List.getElem?_cons_zero]; rfl
                  case hqr6_31 => exact fun _ _ _ h => h
                  case hyr6_31 => (refine Or.inl ⟨by rfl, ?_⟩; intro w hSw; (try dsimp only at hSw); go_simp; all_goals with_reducible rfl)
                  try simp only [Act.put, List.setIfInBounds_toArray, List.set_cons_zero, List.set_cons_succ]
                  refine wpAnyH_take (i := 32) (oi := ?oir6_32) (v := ?vr6_32) ?hir6_32 (by kernel_rfl) (by kernel_rfl) (by kernel_rfl) ?hqr6_32 ?hyr6_32 (by assumption) ?restr6_32
                  case hir6_32 => simp only [List.getElem?_toArray, List.getElem?_cons_succ, List.getElem?_cons_zero]; rfl
                  case hqr6_32 => exact fun _ _ _ h => h
                  case hyr6_32 => (refine Or.inl ⟨by rfl, ?_⟩; intro w hSw; (try dsimp only at hSw); go_simp; all_goals with_reducible rfl)
                  try simp only [Act.put, List.setIfInBounds_toArray, List.set_cons_zero, List.set_cons_succ]
                  refine wpAnyH_take (i := 33) (oi := ?oir6_33) (v := ?vr6_33) ?hir6_33 (by kernel_rfl) (by kernel_rfl) (by kernel_rfl) ?hqr6_33 ?hyr6_33 (by assumption) ?restr6_33
                  case hir6_33 => simp only [List.getElem?_toArray, List.getElem?_cons_succ, List.getElem?_cons_zero]; rfl
                  case hqr6_33 => exact fun _ _ _ h => h
                  case hyr6_33 => (refine Or.inl ⟨by rfl, ?_⟩; intro w hSw; (try dsimp only at hSw); go_simp; all_goals with_reducible rfl)
                  try simp only [Act.put, List.setIfInBounds_toArray, List.set_cons_zero, List.set_cons_succ]
                  refine wpAnyH_done (by kernel_rfl) ?_ _
                  clear hHeld kv l0 n0 l1 n1
                  go_wp2_with fail
                  go_roundw
                  case rel => exact ⟨k + 1, by omega, by go_num, B901⟩
                  case measure => simp [intOf]; omega
        case neg =>
          have d1 : decide (((i : Nat) : Int) < (n_q : Int)) = false := decide_eq_false (by omega)
          have B700 := BT
          have h_l_700 := h_l_3.below BT
          have h_n_700 := hns
          have h_v_700 := hvt
          clear hns BT hvt
          go_wp2_with fail
          go_loopw [14] (fun j wz => ∃ k : Nat, k ≤ n_l ∧ j = .int .i64 (k : Nat) ∧ Below wr.heap.size wr wz) (fun j _ => n_l - (intOf j).toNat)
          case atStart => exact ⟨0, Nat.zero_le _, rfl, Below.refl _ _⟩
          case round =>
            rename World => wz
            obtain ⟨k, hk, rfl, BZ⟩ := hrel
            by_cases hlt2 : k < n_l
            case neg =>
              obtain rfl : k = n_l := by omega
              have BE := B3.trans ((B700.trans (BZ.mono B700.size)).mono B3.size)
              go_wp2_with fail
              go_ret
              exact ⟨rfl, BE⟩
            case pos =>
              have B900 := BZ
              have h_l_900 := h_l_700.below BZ
              have h_n_900 := h_n_700.below BZ
              have h_v_900 := h_v_700.below BZ
              clear BZ
              obtain ⟨bl, ol, rfl, hcl⟩ := h_l_900.addr (by omega)
              obtain ⟨l0, l1, l2⟩ := hcl k hlt2
              obtain ⟨bn, on, rfl, hcn⟩ := h_n_900.addr (by omega)
              obtain ⟨n0, n1, n2⟩ := hcn k hlt2
              clear hcl hcn
              obtain ⟨i1, i2, i3⟩ := hI.out.2.2 k (by rw [HN.out]; exact hlt2)
              have kv := h_v_900.cell k (by have := hI.out.2.1; have := HN.out; omega)
              rw [i1] at n0
              rw [i2] at n1
              have hwk := h_l_900.w hlt2
              generalize (vth vs k).nm = nmk at *
              obtain ⟨w1, w2, -⟩ := hwk
              generalize (vth vs k).pc = pck at *
              obtain ⟨v, hv⟩ : ∃ v, nth vt k = v := ⟨_, rfl⟩
              rw [hv] at kv i3
              clear hv i1 i2
              obtain ⟨p, hp⟩ : ∃ p, (vth vs k).st = p := ⟨_, rfl⟩
              rw [hp] at l2 i3
              obtain ⟨q, hq⟩ : ∃ q, (vth ns k).st = q := ⟨_, rfl⟩
              rw [hq] at n2 i3
              clear hp hq
              have HEQ := Lib.hid (show (nmk.toList == nmk.toList) = true from by simp)
              by_cases hp3 : p = 3
              case pos =>
                by_cases hq3 : q = 3
                case pos =>
                  subst hp3
                  subst hq3
                  obtain rfl : v = 0 := by simp at i3; omega
                  clear i3
                  go_upto_region 26 with fail
                  clear l2 n2
                  have hb := (Below.refl wz.heap.size wz).drew
                  replace kv := cell_below hb kv
                  replace l0 := cell_below hb l0
                  replace n0 := cell_below hb n0
                  replace l1 := cell_below hb l1
                  replace n1 := cell_below hb n1
                  have B901 := B900.trans (hb.mono B900.size)
                  have h_l_901 := h_l_900.below hb
                  have h_n_901 := h_n_900.below hb
                  have h_v_901 := h_v_900.below hb
                  clear hb B900 h_l_900 h_n_900 h_v_900
                  refine wp_region_held_drew (S := (fun w' => w'.cell? ⟨g, k, none⟩ = some (.int .i64 ((0 : Nat) : Int)) ∧ w'.cell? ⟨bl, ol + k * 3, none⟩ = some (.string nmk) ∧ w'.cell? ⟨bn, on + k * 3, none⟩ = some (.string nmk) ∧ w'.cell? ⟨bl, ol + k * 3 + 1, none⟩ = some (.int .i64 pck) ∧ w'.cell? ⟨bn, on + k * 3 + 1, none⟩ = some (.int .i64 pck) ∧ True)) (by kernel_rfl) ?_ (fun hHeld => ?_)
                  · exact ⟨kv, l0, n0, l1, n1, trivial⟩
                  generalize wz.drew = w901 at *
                  refine wpAnyH_take (i := 0) (oi := ?oir94_0) (v := ?vr94_0) ?hir94_0 (by kernel_rfl) (by kernel_rfl) (by kernel_rfl) ?hqr94_0 ?hyr94_0 (by assumption) ?restr94_0
                  case hir94_0 => simp only [List.getElem?_toArray, List.getElem?_cons_succ, List.getElem?_cons_zero]; rfl
                  case hqr94_0 => exact fun _ _ _ h => h
                  case hyr94_0 => (refine Or.inl ⟨by rfl, ?_⟩; intro w hSw; (try dsimp only at hSw); go_simp; all_goals with_reducible rfl)
                  try simp only [Act.put, List.setIfInBounds_toArray, List.set_cons_zero, List.set_cons_succ]
                  refine wpAnyH_take (i := 1) (oi := ?oir94_1) (v := ?vr94_1) ?hir94_1 (by kernel_rfl) (by kernel_rfl) (by kernel_rfl) ?hqr94_1 ?hyr94_1 (by assumption) ?restr94_1
                  case hir94_1 => simp only [List.getElem?_toArray, List.getElem?_cons_succ, List.getElem?_cons_zero]; rfl
                  case hqr94_1 => exact fun _ _ _ h => h
                  case hyr94_1 => (refine Or.inl ⟨by rfl, ?_⟩; intro w hSw; (try dsimp only at hSw); go_simp; all_goals with_reducible rfl)
                  try simp only [Act.put, List.setIfInBounds_toArray, List.set_cons_zero, List.set_cons_succ]
                  refine wpAnyH_take (i := 2) (oi := ?oir94_2) (v := ?vr94_2) ?hir94_2 (by kernel_rfl) (by kernel_rfl) (by kernel_rfl) ?hqr94_2 ?hyr94_2 (by assumption) ?restr94_2
                  case hir94_2 => simp only [List.getElem?_toArray, List.getElem?_cons_succ, List.getElem?_cons_zero]; rfl
                  case hqr94_2 => exact fun _ _ _ h => h
                  case hyr94_2 => (refine Or.inl ⟨by rfl, ?_⟩; intro w hSw; (try dsimp only at hSw); go_simp; all_goals with_reducible rfl)
                  try simp only [Act.put, List.setIfInBounds_toArray, List.set_cons_zero, List.set_cons_succ]
                  refine wpAnyH_take (i := 3) (oi := ?oir94_3) (v := ?vr94_3) ?hir94_3 (by kernel_rfl) (by kernel_rfl) (by kernel_rfl) ?hqr94_3 ?hyr94_3 (by assumption) ?restr94_3
                  case hir94_3 => simp only [List.getElem?_toArray, List.getElem?_cons_succ, List.getElem?_cons_zero]; rfl
                  case hqr94_3 => exact fun _ _ _ h => h
                  case hyr94_3 => (refine Or.inl ⟨by rfl, ?_⟩; intro w hSw; (try dsimp only at hSw); go_simp; all_goals with_reducible rfl)
                  try simp only [Act.put, List.setIfInBounds_toArray, List.set_cons_zero, List.set_cons_succ]
                  refine wpAnyH_take (i := 4) (oi := ?oir94_4) (v := ?vr94_4) ?hir94_4 (by kernel_rfl) (by kernel_rfl) (by kernel_rfl) ?hqr94_4 ?hyr94_4 (by assumption) ?restr94_4
                  case hir94_4 => simp only [List.getElem?_toArray, List.getElem?_cons_succ, List.getElem?_cons_zero]; rfl
                  case hqr94_4 => exact fun _ _ _ h => h
                  case hyr94_4 => (refine Or.inl ⟨by rfl, ?_⟩; intro w hSw; (try dsimp only at hSw); go_simp; all_goals with_reducible rfl)
                  try simp only [Act.put, List.setIfInBounds_toArray, List.set_cons_zero, List.set_cons_succ]
                  refine wpAnyH_take (i := 5) (oi := ?oir94_5) (v := ?vr94_5) ?hir94_5 (by kernel_rfl) (by kernel_rfl) (by kernel_rfl) ?hqr94_5 ?hyr94_5 (by assumption) ?restr94_5
                  case hir94_5 => simp only [List.getElem?_toArray, List.getElem?_cons_succ, List.getElem?_cons_zero]; rfl
                  case hqr94_5 => exact fun _ _ _ h => h
                  case hyr94_5 => (refine Or.inl ⟨by rfl, ?_⟩; intro w hSw; (try dsimp only at hSw); go_simp; all_goals with_reducible rfl)
                  try simp only [Act.put, List.setIfInBounds_toArray, List.set_cons_zero, List.set_cons_succ]
                  refine wpAnyH_take (i := 6) (oi := ?oir94_6) (v := ?vr94_6) ?hir94_6 (by kernel_rfl) (by kernel_rfl) (by kernel_rfl) ?hqr94_6 ?hyr94_6 (by assumption) ?restr94_6
                  case hir94_6 => simp only [List.getElem?_toArray, List.getElem?_cons_succ, List.getElem?_cons_zero]; rfl
                  case hqr94_6 => exact fun _ _ _ h => h
                  case hyr94_6 => (refine Or.inl ⟨by rfl, ?_⟩; intro w hSw; (try dsimp only at hSw); go_simp; all_goals with_reducible rfl)
                  try simp only [Act.put, List.setIfInBounds_toArray, List.set_cons_zero, List.set_cons_succ]
                  refine wpAnyH_take (i := 7) (oi := ?oir94_7) (v := ?vr94_7) ?hir94_7 (by kernel_rfl) (by kernel_rfl) (by kernel_rfl) ?hqr94_7 ?hyr94_7 (by assumption) ?restr94_7
                  case hir94_7 => simp only [List.getElem?_toArray, List.getElem?_cons_succ, List.getElem?_cons_zero]; rfl
                  case hqr94_7 => exact fun _ _ _ h => h
                  case hyr94_7 => (refine Or.inl ⟨by rfl, ?_⟩; intro w hSw; (try dsimp only at hSw); go_simp; all_goals with_reducible rfl)
                  try simp only [Act.put, List.setIfInBounds_toArray, List.set_cons_zero, List.set_cons_succ]
                  refine wpAnyH_take (i := 8) (oi := ?oir94_8) (v := ?vr94_8) ?hir94_8 (by kernel_rfl) (by kernel_rfl) (by kernel_rfl) ?hqr94_8 ?hyr94_8 (by assumption) ?restr94_8
                  case hir94_8 => simp only [List.getElem?_toArray, List.getElem?_cons_succ, List.getElem?_cons_zero]; rfl
                  case hqr94_8 => exact fun _ _ _ h => h
                  case hyr94_8 => (refine Or.inl ⟨by rfl, ?_⟩; intro w hSw; (try dsimp only at hSw); go_simp; all_goals with_reducible rfl)
                  try simp only [Act.put, List.setIfInBounds_toArray, List.set_cons_zero, List.set_cons_succ]
                  refine wpAnyH_take (i := 9) (oi := ?oir94_9) (v := ?vr94_9) ?hir94_9 (by kernel_rfl) (by kernel_rfl) (by kernel_rfl) ?hqr94_9 ?hyr94_9 (by assumption) ?restr94_9
                  case hir94_9 => simp only [List.getElem?_toArray, List.getElem?_cons_succ, List.getElem?_cons_zero]; rfl
                  case hqr94_9 => exact fun _ _ _ h => h
                  case hyr94_9 => (refine Or.inl ⟨by rfl, ?_⟩; intro w hSw; (try dsimp only at hSw); go_simp; all_goals with_reducible rfl)
                  try simp only [Act.put, List.setIfInBounds_toArray, List.set_cons_zero, List.set_cons_succ]
                  refine wpAnyH_take (i := 10) (oi := ?oir94_10) (v := ?vr94_10) ?hir94_10 (by kernel_rfl) (by kernel_rfl) (by kernel_rfl) ?hqr94_10 ?hyr94_10 (by assumption) ?restr94_10
                  case hir94_10 => simp only [List.getElem?_toArray, List.getElem?_cons_succ, List.getElem?_cons_zero]; rfl
                  case hqr94_10 => exact fun _ _ _ h => h
                  case hyr94_10 => (refine Or.inl ⟨by rfl, ?_⟩; intro w hSw; (try dsimp only at hSw); go_simp; all_goals with_reducible rfl)
                  try simp only [Act.put, List.setIfInBounds_toArray, List.set_cons_zero, List.set_cons_succ]
                  refine wpAnyH_take (i := 11) (oi := ?oir94_11) (v := ?vr94_11) ?hir94_11 (by kernel_rfl) (by kernel_rfl) (by kernel_rfl) ?hqr94_11 ?hyr94_11 (by assumption) ?restr94_11
                  case hir94_11 => simp only [List.getElem?_toArray, List.getElem?_cons_succ, List.getElem?_cons_zero]; rfl
                  case hqr94_11 => exact fun _ _ _ h => h
                  case hyr94_11 => (refine Or.inl ⟨by rfl, ?_⟩; intro w hSw; (try dsimp only at hSw); go_simp; all_goals with_reducible rfl)
                  try simp only [Act.put, List.setIfInBounds_toArray, List.set_cons_zero, List.set_cons_succ]
                  refine wpAnyH_take (i := 12) (oi := ?oir94_12) (v := ?vr94_12) ?hir94_12 (by kernel_rfl) (by kernel_rfl) (by kernel_rfl) ?hqr94_12 ?hyr94_12 (by assumption) ?restr94_12
                  case hir94_12 => simp only [List.getElem?_toArray, List.getElem?_cons_succ, List.getElem?_cons_zero]; rfl
                  case hqr94_12 => exact fun _ _ _ h => h
                  case hyr94_12 => (refine Or.inl ⟨by rfl, ?_⟩; intro w hSw; (try dsimp only at hSw); go_simp; all_goals with_reducible rfl)
                  try simp only [Act.put, List.setIfInBounds_toArray, List.set_cons_zero, List.set_cons_succ]
                  refine wpAnyH_take (i := 13) (oi := ?oir94_13) (v := ?vr94_13) ?hir94_13 (by kernel_rfl) (by kernel_rfl) (by kernel_rfl) ?hqr94_13 ?hyr94_13 (by assumption) ?restr94_13
                  case hir94_13 => simp only [List.getElem?_toArray, List.getElem?_cons_succ, List.getElem?_cons_zero]; rfl
                  case hqr94_13 => exact fun _ _ _ h => h
                  case hyr94_13 => (refine Or.inl ⟨by rfl, ?_⟩; intro w hSw; (try dsimp only at hSw); go_simp; all_goals with_reducible rfl)
                  try simp only [Act.put, List.setIfInBounds_toArray, List.set_cons_zero, List.set_cons_succ]
                  refine wpAnyH_take (i := 14) (oi := ?oir94_14) (v := ?vr94_14) ?hir94_14 (by kernel_rfl) (by kernel_rfl) (by kernel_rfl) ?hqr94_14 ?hyr94_14 (by assumption) ?restr94_14
                  case hir94_14 => simp only [List.getElem?_toArray, List.getElem?_cons_succ, List.getElem?_cons_zero]; rfl
                  case hqr94_14 => exact fun _ _ _ h => h
                  case hyr94_14 => (refine Or.inl ⟨by rfl, ?_⟩; intro w hSw; (try dsimp only at hSw); go_simp; all_goals with_reducible rfl)
                  try simp only [Act.put, List.setIfInBounds_toArray, List.set_cons_zero, List.set_cons_succ]
                  refine wpAnyH_take (i := 15) (oi := ?oir94_15) (v := ?vr94_15) ?hir94_15 (by kernel_rfl) (by kernel_rfl) (by kernel_rfl) ?hqr94_15 ?hyr94_15 (by assumption) ?restr94_15
                  case hir94_15 => simp only [List.getElem?_toArray, List.getElem?_cons_succ, List.getElem?_cons_zero]; rfl
                  case hqr94_15 => exact fun _ _ _ h => h
                  case hyr94_15 => (refine Or.inl ⟨by rfl, ?_⟩; intro w hSw; (try dsimp only at hSw); go_simp; all_goals with_reducible rfl)
                  try simp only [Act.put, List.setIfInBounds_toArray, List.set_cons_zero, List.set_cons_succ]
                  refine wpAnyH_take (i := 16) (oi := ?oir94_16) (v := ?vr94_16) ?hir94_16 (by kernel_rfl) (by kernel_rfl) (by kernel_rfl) ?hqr94_16 ?hyr94_16 (by assumption) ?restr94_16
                  case hir94_16 => simp only [List.getElem?_toArray, List.getElem?_cons_succ, List.getElem?_cons_zero]; rfl
                  case hqr94_16 => exact fun _ _ _ h => h
                  case hyr94_16 => (refine Or.inl ⟨by rfl, ?_⟩; intro w hSw; (try dsimp only at hSw); go_simp; all_goals with_reducible rfl)
                  try simp only [Act.put, List.setIfInBounds_toArray, List.set_cons_zero, List.set_cons_succ]
                  refine wpAnyH_take (i := 17) (oi := ?oir94_17) (v := ?vr94_17) ?hir94_17 (by kernel_rfl) (by kernel_rfl) (by kernel_rfl) ?hqr94_17 ?hyr94_17 (by assumption) ?restr94_17
                  case hir94_17 => simp only [List.getElem?_toArray, List.getElem?_cons_succ, List.getElem?_cons_zero]; rfl
                  case hqr94_17 => exact fun _ _ _ h => h
                  case hyr94_17 => (refine Or.inl ⟨by rfl, ?_⟩; intro w hSw; (try dsimp only at hSw); go_simp; all_goals with_reducible rfl)
                  try simp only [Act.put, List.setIfInBounds_toArray, List.set_cons_zero, List.set_cons_succ]
                  refine wpAnyH_take (i := 18) (oi := ?oir94_18) (v := ?vr94_18) ?hir94_18 (by kernel_rfl) (by kernel_rfl) (by kernel_rfl) ?hqr94_18 ?hyr94_18 (by assumption) ?restr94_18
                  case hir94_18 => simp only [List.getElem?_toArray, List.getElem?_cons_succ, List.getElem?_cons_zero]; rfl
                  case hqr94_18 => exact fun _ _ _ h => h
                  case hyr94_18 => (refine Or.inl ⟨by rfl, ?_⟩; intro w hSw; (try dsimp only at hSw); go_simp; all_goals with_reducible rfl)
                  try simp only [Act.put, List.setIfInBounds_toArray, List.set_cons_zero, List.set_cons_succ]
                  refine wpAnyH_take (i := 19) (oi := ?oir94_19) (v := ?vr94_19) ?hir94_19 (by kernel_rfl) (by kernel_rfl) (by kernel_rfl) ?hqr94_19 ?hyr94_19 (by assumption) ?restr94_19
                  case hir94_19 => simp only [List.getElem?_toArray, List.getElem?_cons_succ, List.getElem?_cons_zero]; rfl
                  case hqr94_19 => exact fun _ _ _ h => h
                  case hyr94_19 => (refine Or.inl ⟨by rfl, ?_⟩; intro w hSw; (try dsimp only at hSw); go_simp; all_goals with_reducible rfl)
                  try simp only [Act.put, List.setIfInBounds_toArray, List.set_cons_zero, List.set_cons_succ]
                  refine wpAnyH_take (i := 20) (oi := ?oir94_20) (v := ?vr94_20) ?hir94_20 (by kernel_rfl) (by kernel_rfl) (by kernel_rfl) ?hqr94_20 ?hyr94_20 (by assumption) ?restr94_20
                  case hir94_20 => simp only [List.getElem?_toArray, List.getElem?_cons_succ, List.getElem?_cons_zero]; rfl
                  case hqr94_20 => exact fun _ _ _ h => h
                  case hyr94_20 => (refine Or.inl ⟨by rfl, ?_⟩; intro w hSw; (try dsimp only at hSw); go_simp; all_goals with_reducible rfl)
                  try simp only [Act.put, List.setIfInBounds_toArray, List.set_cons_zero, List.set_cons_succ]
                  refine wpAnyH_take (i := 21) (oi := ?oir94_21) (v := ?vr94_21) ?hir94_21 (by kernel_rfl) (by kernel_rfl) (by kernel_rfl) ?hqr94_21 ?hyr94_21 (by assumption) ?restr94_21
                  case hir94_21 => simp only [List.getElem?_toArray, List.getElem?_cons_succ, List.getElem?_cons_zero]; rfl
                  case hqr94_21 => exact fun _ _ _ h => h
                  case hyr94_21 => (refine Or.inl ⟨by rfl, ?_⟩; intro w hSw; (try dsimp only at hSw); go_simp; all_goals with_reducible rfl)
                  try simp only [Act.put, List.setIfInBounds_toArray, List.set_cons_zero, List.set_cons_succ]
                  refine wpAnyH_take (i := 22) (oi := ?oir94_22) (v := ?vr94_22) ?hir94_22 (by kernel_rfl) (by kernel_rfl) (by kernel_rfl) ?hqr94_22 ?hyr94_22 (by assumption) ?restr94_22
                  case hir94_22 => simp only [List.getElem?_toArray, List.getElem?_cons_succ, List.getElem?_cons_zero]; rfl
                  case hqr94_22 => exact fun _ _ _ h => h
                  case hyr94_22 => (refine Or.inl ⟨by rfl, ?_⟩; intro w hSw; (try dsimp only at hSw); go_simp; all_goals with_reducible rfl)
                  try simp only [Act.put, List.setIfInBounds_toArray, List.set_cons_zero, List.set_cons_succ]
                  refine wpAnyH_take (i := 23) (oi := ?oir94_23) (v := ?vr94_23) ?hir94_23 (by kernel_rfl) (by kernel_rfl) (by kernel_rfl) ?hqr94_23 ?hyr94_23 (by assumption) ?restr94_23
                  case hir94_23 => simp only [List.getElem?_toArray, List.getElem?_cons_succ, List.getElem?_cons_zero]; rfl
                  case hqr94_23 => exact fun _ _ _ h => h
                  case hyr94_23 => (refine Or.inl ⟨by rfl, ?_⟩; intro w hSw; (try dsimp only at hSw); go_simp; all_goals with_reducible rfl)
                  try simp only [Act.put, List.setIfInBounds_toArray, List.set_cons_zero, List.set_cons_succ]
                  refine wpAnyH_take (i := 24) (oi := ?oir94_24) (v := ?vr94_24) ?hir94_24 (by kernel_rfl) (by kernel_rfl) (by kernel_rfl) ?hqr94_24 ?hyr94_24 (by assumption) ?restr94_24
                  case hir94_24 => simp only [List.getElem?_toArray, List.getElem?_cons_succ, List.getElem?_cons_zero]; rfl
                  case hqr94_24 => exact fun _ _ _ h => h
                  case hyr94_24 => (refine Or.inl ⟨by rfl, ?_⟩; intro w hSw; (try dsimp only at hSw); go_simp; all_goals with_reducible rfl)
                  try simp only [Act.put, List.setIfInBounds_toArray, List.set_cons_zero, List.set_cons_succ]
                  refine wpAnyH_take (i := 25) (oi := ?oir94_25) (v := ?vr94_25) ?hir94_25 (by kernel_rfl) (by kernel_rfl) (by kernel_rfl) ?hqr94_25 ?hyr94_25 (by assumption) ?restr94_25
                  case hir94_25 => simp only [List.getElem?_toArray, List.getElem?_cons_succ, List.getElem?_cons_zero]; rfl
                  case hqr94_25 => exact fun _ _ _ h => h
                  case hyr94_25 => (refine Or.inl ⟨by rfl, ?_⟩; intro w hSw; (try dsimp only at hSw); go_simp; all_goals with_reducible rfl)
                  try simp only [Act.put, List.setIfInBounds_toArray, List.set_cons_zero, List.set_cons_succ]
                  refine wpAnyH_take (i := 26) (oi := ?oir94_26) (v := ?vr94_26) ?hir94_26 (by kernel_rfl) (by kernel_rfl) (by kernel_rfl) ?hqr94_26 ?hyr94_26 (by assumption) ?restr94_26
                  case hir94_26 => simp only [List.getElem?_toArray, List.getElem?_cons_succ, List.getElem?_cons_zero]; rfl
                  case hqr94_26 => exact fun _ _ _ h => h
                  case hyr94_26 => (refine Or.inl ⟨by rfl, ?_⟩; intro w hSw; (try dsimp only at hSw); go_simp; all_goals with_reducible rfl)
                  try simp only [Act.put, List.setIfInBounds_toArray, List.set_cons_zero, List.set_cons_succ]
                  refine wpAnyH_take (i := 27) (oi := ?oir94_27) (v := ?vr94_27) ?hir94_27 (by kernel_rfl) (by kernel_rfl) (by kernel_rfl) ?hqr94_27 ?hyr94_27 (by assumption) ?restr94_27
                  case hir94_27 => simp only [List.getElem?_toArray, List.getElem?_cons_succ, List.getElem?_cons_zero]; rfl
                  case hqr94_27 => exact fun _ _ _ h => h
                  case hyr94_27 => (refine Or.inl ⟨by rfl, ?_⟩; intro w hSw; (try dsimp only at hSw); go_simp; all_goals with_reducible rfl)
                  try simp only [Act.put, List.setIfInBounds_toArray, List.set_cons_zero, List.set_cons_succ]
                  refine wpAnyH_take (i := 28) (oi := ?oir94_28) (v := ?vr94_28) ?hir94_28 (by kernel_rfl) (by kernel_rfl) (by kernel_rfl) ?hqr94_28 ?hyr94_28 (by assumption) ?restr94_28
                  case hir94_28 => simp only [List.getElem?_toArray, List.getElem?_cons_succ, List.getElem?_cons_zero]; rfl
                  case hqr94_28 => exact fun _ _ _ h => h
                  case hyr94_28 => (refine Or.inl ⟨by rfl, ?_⟩; intro w hSw; (try dsimp only at hSw); go_simp; all_goals with_reducible rfl)
                  try simp only [Act.put, List.setIfInBounds_toArray, List.set_cons_zero, List.set_cons_succ]
                  refine wpAnyH_take (i := 29) (oi := ?oir94_29) (v := ?vr94_29) ?hir94_29 (by kernel_rfl) (by kernel_rfl) (by kernel_rfl) ?hqr94_29 ?hyr94_29 (by assumption) ?restr94_29
                  case hir94_29 => simp only [List.getElem?_toArray, List.getElem?_cons_succ, List.getElem?_cons_zero]; rfl
                  case hqr94_29 => exact fun _ _ _ h => h
                  case hyr94_29 => (refine Or.inl ⟨by rfl, ?_⟩; intro w hSw; (try dsimp only at hSw); go_simp; all_goals with_reducible rfl)
                  try simp only [Act.put, List.setIfInBounds_toArray, List.set_cons_zero, List.set_cons_succ]
                  refine wpAnyH_take (i := 30) (oi := ?oir94_30) (v := ?vr94_30) ?hir94_30 (by kernel_rfl) (by kernel_rfl) (by kernel_rfl) ?hqr94_30 ?hyr94_30 (by assumption) ?restr94_30
                  case hir94_30 => simp only [List.getElem?_toArray, List.getElem?_cons_succ, List.getElem?_cons_zero]; rfl
                  case hqr94_30 => exact fun _ _ _ h => h
                  case hyr94_30 => (refine Or.inl ⟨by rfl, ?_⟩; intro w hSw; (try dsimp only at hSw); go_simp; all_goals with_reducible rfl)
                  try simp only [Act.put, List.setIfInBounds_toArray, List.set_cons_zero, List.set_cons_succ]
                  refine wpAnyH_take (i := 31) (oi := ?oir94_31) (v := ?vr94_31) ?hir94_31 (by kernel_rfl) (by kernel_rfl) (by kernel_rfl) ?hqr94_31 ?hyr94_31 (by assumption) ?restr94_31
                  case hir94_31 => simp only [List.getElem?_toArray, List.getElem?_cons_succ, List.getElem?_cons_zero]; rfl
                  case hqr94_31 => exact fun _ _ _ h => h
                  case hyr94_31 => (refine Or.inl ⟨by rfl, ?_⟩; intro w hSw; (try dsimp only at hSw); go_simp; all_goals with_reducible rfl)
                  try simp only [Act.put, List.setIfInBounds_toArray, List.set_cons_zero, List.set_cons_succ]
                  refine wpAnyH_take (i := 32) (oi := ?oir94_32) (v := ?vr94_32) ?hir94_32 (by kernel_rfl) (by kernel_rfl) (by kernel_rfl) ?hqr94_32 ?hyr94_32 (by assumption) ?restr94_32
                  case hir94_32 => simp only [List.getElem?_toArray, List.getElem?_cons_succ, List.getElem?_cons_zero]; rfl
                  case hqr94_32 => exact fun _ _ _ h => h
                  case hyr94_32 => (refine Or.inl ⟨by rfl, ?_⟩; intro w hSw; (try dsimp only at hSw); go_simp; all_goals with_reducible rfl)
                  try simp only [Act.put, List.setIfInBounds_toArray, List.set_cons_zero, List.set_cons_succ]
                  refine wpAnyH_take (i := 33) (oi := ?oir94_33) (v := ?vr94_33) ?hir94_33 (by kernel_rfl) (by kernel_rfl) (by kernel_rfl) ?hqr94_33 ?hyr94_33 (by assumption) ?restr94_33
                  case hir94_33 => simp only [List.getElem?_toArray, List.getElem?_cons_succ, List.getElem?_cons_zero]; rfl
                  case hqr94_33 => exact fun _ _ _ h => h
                  case hyr94_33 => (refine Or.inl ⟨by rfl, ?_⟩; intro w hSw; (try dsimp only at hSw); go_simp; all_goals with_reducible rfl)
                  try simp only [Act.put, List.setIfInBounds_toArray, List.set_cons_zero, List.set_cons_succ]
                  refine wpAnyH_done (by kernel_rfl) ?_ _
                  clear hHeld kv l0 n0 l1 n1
                  go_wp2_with fail
                  go_roundw
                  case rel => exact ⟨k + 1, by omega, by go_num, B901⟩
                  case measure => simp [intOf]; omega
                case neg => rw [if_pos hp3, if_neg hq3] at i3; omega
              case neg =>
                by_cases hq3 : q = 3
                case pos =>
                  have pe : (((p : Nat) : Int) == 3) = false := by simp; omega
                  have pd : decide (((p : Nat) : Int) = 3) = false := decide_eq_false (by omega)
                  subst hq3
                  obtain rfl : v = 1 := by rw [if_neg hp3, if_pos rfl] at i3; omega
                  clear i3 hp3
                  go_upto_region 26 with fail
                  clear l2 n2
                  have hb := (Below.refl wz.heap.size wz).drew
                  replace kv := cell_below hb kv
                  replace l0 := cell_below hb l0
                  replace n0 := cell_below hb n0
                  replace l1 := cell_below hb l1
                  replace n1 := cell_below hb n1
                  have B901 := B900.trans (hb.mono B900.size)
                  have h_l_901 := h_l_900.below hb
                  have h_n_901 := h_n_900.below hb
                  have h_v_901 := h_v_900.below hb
                  clear hb B900 h_l_900 h_n_900 h_v_900
                  refine wp_region_held_drew (S := (fun w' => w'.cell? ⟨g, k, none⟩ = some (.int .i64 ((1 : Nat) : Int)) ∧ w'.cell? ⟨bl, ol + k * 3, none⟩ = some (.string nmk) ∧ w'.cell? ⟨bn, on + k * 3, none⟩ = some (.string nmk) ∧ w'.cell? ⟨bl, ol + k * 3 + 1, none⟩ = some (.int .i64 pck) ∧ w'.cell? ⟨bn, on + k * 3 + 1, none⟩ = some (.int .i64 pck) ∧ True)) (by kernel_rfl) ?_ (fun hHeld => ?_)
                  · exact ⟨kv, l0, n0, l1, n1, trivial⟩
                  generalize wz.drew = w901 at *
                  refine wpAnyH_take (i := 0) (oi := ?oir95_0) (v := ?vr95_0) ?hir95_0 (by kernel_rfl) (by kernel_rfl) (by kernel_rfl) ?hqr95_0 ?hyr95_0 (by assumption) ?restr95_0
                  case hir95_0 => simp only [List.getElem?_toArray, List.getElem?_cons_succ, List.getElem?_cons_zero]; rfl
                  case hqr95_0 => exact fun _ _ _ h => h
                  case hyr95_0 => (refine Or.inl ⟨by rfl, ?_⟩; intro w hSw; (try dsimp only at hSw); go_simp; all_goals with_reducible rfl)
                  try simp only [Act.put, List.setIfInBounds_toArray, List.set_cons_zero, List.set_cons_succ]
                  refine wpAnyH_take (i := 1) (oi := ?oir95_1) (v := ?vr95_1) ?hir95_1 (by kernel_rfl) (by kernel_rfl) (by kernel_rfl) ?hqr95_1 ?hyr95_1 (by assumption) ?restr95_1
                  case hir95_1 => simp only [List.getElem?_toArray, List.getElem?_cons_succ, List.getElem?_cons_zero]; rfl
                  case hqr95_1 => exact fun _ _ _ h => h
                  case hyr95_1 => (refine Or.inl ⟨by rfl, ?_⟩; intro w hSw; (try dsimp only at hSw); go_simp; all_goals with_reducible rfl)
                  try simp only [Act.put, List.setIfInBounds_toArray, List.set_cons_zero, List.set_cons_succ]
                  refine wpAnyH_take (i := 2) (oi := ?oir95_2) (v := ?vr95_2) ?hir95_2 (by kernel_rfl) (by kernel_rfl) (by kernel_rfl) ?hqr95_2 ?hyr95_2 (by assumption) ?restr95_2
                  case hir95_2 => simp only [List.getElem?_toArray, List.getElem?_cons_succ, List.getElem?_cons_zero]; rfl
                  case hqr95_2 => exact fun _ _ _ h => h
                  case hyr95_2 => (refine Or.inl ⟨by rfl, ?_⟩; intro w hSw; (try dsimp only at hSw); go_simp; all_goals with_reducible rfl)
                  try simp only [Act.put, List.setIfInBounds_toArray, List.set_cons_zero, List.set_cons_succ]
                  refine wpAnyH_take (i := 3) (oi := ?oir95_3) (v := ?vr95_3) ?hir95_3 (by kernel_rfl) (by kernel_rfl) (by kernel_rfl) ?hqr95_3 ?hyr95_3 (by assumption) ?restr95_3
                  case hir95_3 => simp only [List.getElem?_toArray, List.getElem?_cons_succ, List.getElem?_cons_zero]; rfl
                  case hqr95_3 => exact fun _ _ _ h => h
                  case hyr95_3 => (refine Or.inl ⟨by rfl, ?_⟩; intro w hSw; (try dsimp only at hSw); go_simp; all_goals with_reducible rfl)
                  try simp only [Act.put, List.setIfInBounds_toArray, List.set_cons_zero, List.set_cons_succ]
                  refine wpAnyH_take (i := 4) (oi := ?oir95_4) (v := ?vr95_4) ?hir95_4 (by kernel_rfl) (by kernel_rfl) (by kernel_rfl) ?hqr95_4 ?hyr95_4 (by assumption) ?restr95_4
                  case hir95_4 => simp only [List.getElem?_toArray, List.getElem?_cons_succ, List.getElem?_cons_zero]; rfl
                  case hqr95_4 => exact fun _ _ _ h => h
                  case hyr95_4 => (refine Or.inl ⟨by rfl, ?_⟩; intro w hSw; (try dsimp only at hSw); go_simp; all_goals with_reducible rfl)
                  try simp only [Act.put, List.setIfInBounds_toArray, List.set_cons_zero, List.set_cons_succ]
                  refine wpAnyH_take (i := 5) (oi := ?oir95_5) (v := ?vr95_5) ?hir95_5 (by kernel_rfl) (by kernel_rfl) (by kernel_rfl) ?hqr95_5 ?hyr95_5 (by assumption) ?restr95_5
                  case hir95_5 => simp only [List.getElem?_toArray, List.getElem?_cons_succ, List.getElem?_cons_zero]; rfl
                  case hqr95_5 => exact fun _ _ _ h => h
                  case hyr95_5 => (refine Or.inl ⟨by rfl, ?_⟩; intro w hSw; (try dsimp only at hSw); go_simp; all_goals with_reducible rfl)
                  try simp only [Act.put, List.setIfInBounds_toArray, List.set_cons_zero, List.set_cons_succ]
                  refine wpAnyH_take (i := 6) (oi := ?oir95_6) (v := ?vr95_6) ?hir95_6 (by kernel_rfl) (by kernel_rfl) (by kernel_rfl) ?hqr95_6 ?hyr95_6 (by assumption) ?restr95_6
                  case hir95_6 => simp only [List.getElem?_toArray, List.getElem?_cons_succ, List.getElem?_cons_zero]; rfl
                  case hqr95_6 => exact fun _ _ _ h => h
                  case hyr95_6 => (refine Or.inl ⟨by rfl, ?_⟩; intro w hSw; (try dsimp only at hSw); go_simp; all_goals with_reducible rfl)
                  try simp only [Act.put, List.setIfInBounds_toArray, List.set_cons_zero, List.set_cons_succ]
                  refine wpAnyH_take (i := 7) (oi := ?oir95_7) (v := ?vr95_7) ?hir95_7 (by kernel_rfl) (by kernel_rfl) (by kernel_rfl) ?hqr95_7 ?hyr95_7 (by assumption) ?restr95_7
                  case hir95_7 => simp only [List.getElem?_toArray, List.getElem?_cons_succ, List.getElem?_cons_zero]; rfl
                  case hqr95_7 => exact fun _ _ _ h => h
                  case hyr95_7 => (refine Or.inl ⟨by rfl, ?_⟩; intro w hSw; (try dsimp only at hSw); go_simp; all_goals with_reducible rfl)
                  try simp only [Act.put, List.setIfInBounds_toArray, List.set_cons_zero, List.set_cons_succ]
                  refine wpAnyH_take (i := 8) (oi := ?oir95_8) (v := ?vr95_8) ?hir95_8 (by kernel_rfl) (by kernel_rfl) (by kernel_rfl) ?hqr95_8 ?hyr95_8 (by assumption) ?restr95_8
                  case hir95_8 => simp only [List.getElem?_toArray, List.getElem?_cons_succ, List.getElem?_cons_zero]; rfl
                  case hqr95_8 => exact fun _ _ _ h => h
                  case hyr95_8 => (refine Or.inl ⟨by rfl, ?_⟩; intro w hSw; (try dsimp only at hSw); go_simp; all_goals with_reducible rfl)
                  try simp only [Act.put, List.setIfInBounds_toArray, List.set_cons_zero, List.set_cons_succ]
                  refine wpAnyH_take (i := 9) (oi := ?oir95_9) (v := ?vr95_9) ?hir95_9 (by kernel_rfl) (by kernel_rfl) (by kernel_rfl) ?hqr95_9 ?hyr95_9 (by assumption) ?restr95_9
                  case hir95_9 => simp only [List.getElem?_toArray, List.getElem?_cons_succ, List.getElem?_cons_zero]; rfl
                  case hqr95_9 => exact fun _ _ _ h => h
                  case hyr95_9 => (refine Or.inl ⟨by rfl, ?_⟩; intro w hSw; (try dsimp only at hSw); go_simp; all_goals with_reducible rfl)
                  try simp only [Act.put, List.setIfInBounds_toArray, List.set_cons_zero, List.set_cons_succ]
                  refine wpAnyH_take (i := 10) (oi := ?oir95_10) (v := ?vr95_10) ?hir95_10 (by kernel_rfl) (by kernel_rfl) (by kernel_rfl) ?hqr95_10 ?hyr95_10 (by assumption) ?restr95_10
                  case hir95_10 => simp only [List.getElem?_toArray, List.getElem?_cons_succ, List.getElem?_cons_zero]; rfl
                  case hqr95_10 => exact fun _ _ _ h => h
                  case hyr95_10 => (refine Or.inl ⟨by rfl, ?_⟩; intro w hSw; (try dsimp only at hSw); go_simp; all_goals with_reducible rfl)
                  try simp only [Act.put, List.setIfInBounds_toArray, List.set_cons_zero, List.set_cons_succ]
                  refine wpAnyH_take (i := 11) (oi := ?oir95_11) (v := ?vr95_11) ?hir95_11 (by kernel_rfl) (by kernel_rfl) (by kernel_rfl) ?hqr95_11 ?hyr95_11 (by assumption) ?restr95_11
                  case hir95_11 => simp only [List.getElem?_toArray, List.getElem?_cons_succ, List.getElem?_cons_zero]; rfl
                  case hqr95_11 => exact fun _ _ _ h => h
                  case hyr95_11 => (refine Or.inl ⟨by rfl, ?_⟩; intro w hSw; (try dsimp only at hSw); go_simp; all_goals with_reducible rfl)
                  try simp only [Act.put, List.setIfInBounds_toArray, List.set_cons_zero, List.set_cons_succ]
                  refine wpAnyH_take (i := 12) (oi := ?oir95_12) (v := ?vr95_12) ?hir95_12 (by kernel_rfl) (by kernel_rfl) (by kernel_rfl) ?hqr95_12 ?hyr95_12 (by assumption) ?restr95_12
                  case hir95_12 => simp only [List.getElem?_toArray, List.getElem?_cons_succ, List.getElem?_cons_zero]; rfl
                  case hqr95_12 => exact fun _ _ _ h => h
                  case hyr95_12 => (refine Or.inl ⟨by rfl, ?_⟩; intro w hSw; (try dsimp only at hSw); go_simp; all_goals with_reducible rfl)
                  try simp only [Act.put, List.setIfInBounds_toArray, List.set_cons_zero, List.set_cons_succ]
                  refine wpAnyH_take (i := 13) (oi := ?oir95_13) (v := ?vr95_13) ?hir95_13 (by kernel_rfl) (by kernel_rfl) (by kernel_rfl) ?hqr95_13 ?hyr95_13 (by assumption) ?restr95_13
                  case hir95_13 => simp only [List.getElem?_toArray, List.getElem?_cons_succ, List.getElem?_cons_zero]; rfl
                  case hqr95_13 => exact fun _ _ _ h => h
                  case hyr95_13 => (refine Or.inl ⟨by rfl, ?_⟩; intro w hSw; (try dsimp only at hSw); go_simp; all_goals with_reducible rfl)
                  try simp only [Act.put, List.setIfInBounds_toArray, List.set_cons_zero, List.set_cons_succ]
                  refine wpAnyH_take (i := 14) (oi := ?oir95_14) (v := ?vr95_14) ?hir95_14 (by kernel_rfl) (by kernel_rfl) (by kernel_rfl) ?hqr95_14 ?hyr95_14 (by assumption) ?restr95_14
                  case hir95_14 => simp only [List.getElem?_toArray, List.getElem?_cons_succ, List.getElem?_cons_zero]; rfl
                  case hqr95_14 => exact fun _ _ _ h => h
                  case hyr95_14 => (refine Or.inl ⟨by rfl, ?_⟩; intro w hSw; (try dsimp only at hSw); go_simp; all_goals with_reducible rfl)
                  try simp only [Act.put, List.setIfInBounds_toArray, List.set_cons_zero, List.set_cons_succ]
                  refine wpAnyH_take (i := 15) (oi := ?oir95_15) (v := ?vr95_15) ?hir95_15 (by kernel_rfl) (by kernel_rfl) (by kernel_rfl) ?hqr95_15 ?hyr95_15 (by assumption) ?restr95_15
                  case hir95_15 => simp only [List.getElem?_toArray, List.getElem?_cons_succ, List.getElem?_cons_zero]; rfl
                  case hqr95_15 => exact fun _ _ _ h => h
                  case hyr95_15 => (refine Or.inl ⟨by rfl, ?_⟩; intro w hSw; (try dsimp only at hSw); go_simp; all_goals with_reducible rfl)
                  try simp only [Act.put, List.setIfInBounds_toArray, List.set_cons_zero, List.set_cons_succ]
                  refine wpAnyH_take (i := 16) (oi := ?oir95_16) (v := ?vr95_16) ?hir95_16 (by kernel_rfl) (by kernel_rfl) (by kernel_rfl) ?hqr95_16 ?hyr95_16 (by assumption) ?restr95_16
                  case hir95_16 => simp only [List.getElem?_toArray, List.getElem?_cons_succ, List.getElem?_cons_zero]; rfl
                  case hqr95_16 => exact fun _ _ _ h => h
                  case hyr95_16 => (refine Or.inl ⟨by rfl, ?_⟩; intro w hSw; (try dsimp only at hSw); go_simp; all_goals with_reducible rfl)
                  try simp only [Act.put, List.setIfInBounds_toArray, List.set_cons_zero, List.set_cons_succ]
                  refine wpAnyH_take (i := 17) (oi := ?oir95_17) (v := ?vr95_17) ?hir95_17 (by kernel_rfl) (by kernel_rfl) (by kernel_rfl) ?hqr95_17 ?hyr95_17 (by assumption) ?restr95_17
                  case hir95_17 => simp only [List.getElem?_toArray, List.getElem?_cons_succ, List.getElem?_cons_zero]; rfl
                  case hqr95_17 => exact fun _ _ _ h => h
                  case hyr95_17 => (refine Or.inl ⟨by rfl, ?_⟩; intro w hSw; (try dsimp only at hSw); go_simp; all_goals with_reducible rfl)
                  try simp only [Act.put, List.setIfInBounds_toArray, List.set_cons_zero, List.set_cons_succ]
                  refine wpAnyH_take (i := 18) (oi := ?oir95_18) (v := ?vr95_18) ?hir95_18 (by kernel_rfl) (by kernel_rfl) (by kernel_rfl) ?hqr95_18 ?hyr95_18 (by assumption) ?restr95_18
                  case hir95_18 => simp only [List.getElem?_toArray, List.getElem?_cons_succ, List.getElem?_cons_zero]; rfl
                  case hqr95_18 => exact fun _ _ _ h => h
                  case hyr95_18 => (refine Or.inl ⟨by rfl, ?_⟩; intro w hSw; (try dsimp only at hSw); go_simp; all_goals with_reducible rfl)
                  try simp only [Act.put, List.setIfInBounds_toArray, List.set_cons_zero, List.set_cons_succ]
                  refine wpAnyH_take (i := 19) (oi := ?oir95_19) (v := ?vr95_19) ?hir95_19 (by kernel_rfl) (by kernel_rfl) (by kernel_rfl) ?hqr95_19 ?hyr95_19 (by assumption) ?restr95_19
                  case hir95_19 => simp only [List.getElem?_toArray, List.getElem?_cons_succ, List.getElem?_cons_zero]; rfl
                  case hqr95_19 => exact fun _ _ _ h => h
                  case hyr95_19 => (refine Or.inl ⟨by rfl, ?_⟩; intro w hSw; (try dsimp only at hSw); go_simp; all_goals with_reducible rfl)
                  try simp only [Act.put, List.setIfInBounds_toArray, List.set_cons_zero, List.set_cons_succ]
                  refine wpAnyH_take (i := 20) (oi := ?oir95_20) (v := ?vr95_20) ?hir95_20 (by kernel_rfl) (by kernel_rfl) (by kernel_rfl) ?hqr95_20 ?hyr95_20 (by assumption) ?restr95_20
                  case hir95_20 => simp only [List.getElem?_toArray, List.getElem?_cons_succ, List.getElem?_cons_zero]; rfl
                  case hqr95_20 => exact fun _ _ _ h => h
                  case hyr95_20 => (refine Or.inl ⟨by rfl, ?_⟩; intro w hSw; (try dsimp only at hSw); go_simp; all_goals with_reducible rfl)
                  try simp only [Act.put, List.setIfInBounds_toArray, List.set_cons_zero, List.set_cons_succ]
                  refine wpAnyH_take (i := 21) (oi := ?oir95_21) (v := ?vr95_21) ?hir95_21 (by kernel_rfl) (by kernel_rfl) (by kernel_rfl) ?hqr95_21 ?hyr95_21 (by assumption) ?restr95_21
                  case hir95_21 => simp only [List.getElem?_toArray, List.getElem?_cons_succ, List.getElem?_cons_zero]; rfl
                  case hqr95_21 => exact fun _ _ _ h => h
                  case hyr95_21 => (refine Or.inl ⟨by rfl, ?_⟩; intro w hSw; (try dsimp only at hSw); go_simp; all_goals with_reducible rfl)
                  try simp only [Act.put, List.setIfInBounds_toArray, List.set_cons_zero, List.set_cons_succ]
                  refine wpAnyH_take (i := 22) (oi := ?oir95_22) (v := ?vr95_22) ?hir95_22 (by kernel_rfl) (by kernel_rfl) (by kernel_rfl) ?hqr95_22 ?hyr95_22 (by assumption) ?restr95_22
                  case hir95_22 => simp only [List.getElem?_toArray, List.getElem?_cons_succ, List.getElem?_cons_zero]; rfl
                  case hqr95_22 => exact fun _ _ _ h => h
                  case hyr95_22 => (refine Or.inl ⟨by rfl, ?_⟩; intro w hSw; (try dsimp only at hSw); go_simp; all_goals with_reducible rfl)
                  try simp only [Act.put, List.setIfInBounds_toArray, List.set_cons_zero, List.set_cons_succ]
                  refine wpAnyH_take (i := 23) (oi := ?oir95_23) (v := ?vr95_23) ?hir95_23 (by kernel_rfl) (by kernel_rfl) (by kernel_rfl) ?hqr95_23 ?hyr95_23 (by assumption) ?restr95_23
                  case hir95_23 => simp only [List.getElem?_toArray, List.getElem?_cons_succ, List.getElem?_cons_zero]; rfl
                  case hqr95_23 => exact fun _ _ _ h => h
                  case hyr95_23 => (refine Or.inl ⟨by rfl, ?_⟩; intro w hSw; (try dsimp only at hSw); go_simp; all_goals with_reducible rfl)
                  try simp only [Act.put, List.setIfInBounds_toArray, List.set_cons_zero, List.set_cons_succ]
                  refine wpAnyH_take (i := 24) (oi := ?oir95_24) (v := ?vr95_24) ?hir95_24 (by kernel_rfl) (by kernel_rfl) (by kernel_rfl) ?hqr95_24 ?hyr95_24 (by assumption) ?restr95_24
                  case hir95_24 => simp only [List.getElem?_toArray, List.getElem?_cons_succ, List.getElem?_cons_zero]; rfl
                  case hqr95_24 => exact fun _ _ _ h => h
                  case hyr95_24 => (refine Or.inl ⟨by rfl, ?_⟩; intro w hSw; (try dsimp only at hSw); go_simp; all_goals with_reducible rfl)
                  try simp only [Act.put, List.setIfInBounds_toArray, List.set_cons_zero, List.set_cons_succ]
                  refine wpAnyH_take (i := 25) (oi := ?oir95_25) (v := ?vr95_25) ?hir95_25 (by kernel_rfl) (by kernel_rfl) (by kernel_rfl) ?hqr95_25 ?hyr95_25 (by assumption) ?restr95_25
                  case hir95_25 => simp only [List.getElem?_toArray, List.getElem?_cons_succ, List.getElem?_cons_zero]; rfl
                  case hqr95_25 => exact fun _ _ _ h => h
                  case hyr95_25 => (refine Or.inl ⟨by rfl, ?_⟩; intro w hSw; (try dsimp only at hSw); go_simp; all_goals with_reducible rfl)
                  try simp only [Act.put, List.setIfInBounds_toArray, List.set_cons_zero, List.set_cons_succ]
                  refine wpAnyH_take (i := 26) (oi := ?oir95_26) (v := ?vr95_26) ?hir95_26 (by kernel_rfl) (by kernel_rfl) (by kernel_rfl) ?hqr95_26 ?hyr95_26 (by assumption) ?restr95_26
                  case hir95_26 => simp only [List.getElem?_toArray, List.getElem?_cons_succ, List.getElem?_cons_zero]; rfl
                  case hqr95_26 => exact fun _ _ _ h => h
                  case hyr95_26 => (refine Or.inl ⟨by rfl, ?_⟩; intro w hSw; (try dsimp only at hSw); go_simp; all_goals with_reducible rfl)
                  try simp only [Act.put, List.setIfInBounds_toArray, List.set_cons_zero, List.set_cons_succ]
                  refine wpAnyH_take (i := 27) (oi := ?oir95_27) (v := ?vr95_27) ?hir95_27 (by kernel_rfl) (by kernel_rfl) (by kernel_rfl) ?hqr95_27 ?hyr95_27 (by assumption) ?restr95_27
                  case hir95_27 => simp only [List.getElem?_toArray, List.getElem?_cons_succ, List.getElem?_cons_zero]; rfl
                  case hqr95_27 => exact fun _ _ _ h => h
                  case hyr95_27 => (refine Or.inl ⟨by rfl, ?_⟩; intro w hSw; (try dsimp only at hSw); go_simp; all_goals with_reducible rfl)
                  try simp only [Act.put, List.setIfInBounds_toArray, List.set_cons_zero, List.set_cons_succ]
                  refine wpAnyH_take (i := 28) (oi := ?oir95_28) (v := ?vr95_28) ?hir95_28 (by kernel_rfl) (by kernel_rfl) (by kernel_rfl) ?hqr95_28 ?hyr95_28 (by assumption) ?restr95_28
                  case hir95_28 => simp only [List.getElem?_toArray, List.getElem?_cons_succ, List.getElem?_cons_zero]; rfl
                  case hqr95_28 => exact fun _ _ _ h => h
                  case hyr95_28 => (refine Or.inl ⟨by rfl, ?_⟩; intro w hSw; (try dsimp only at hSw); go_simp; all_goals with_reducible rfl)
                  try simp only [Act.put, List.setIfInBounds_toArray, List.set_cons_zero, List.set_cons_succ]
                  refine wpAnyH_take (i := 29) (oi := ?oir95_29) (v := ?vr95_29) ?hir95_29 (by kernel_rfl) (by kernel_rfl) (by kernel_rfl) ?hqr95_29 ?hyr95_29 (by assumption) ?restr95_29
                  case hir95_29 => simp only [List.getElem?_toArray, List.getElem?_cons_succ, List.getElem?_cons_zero]; rfl
                  case hqr95_29 => exact fun _ _ _ h => h
                  case hyr95_29 => (refine Or.inl ⟨by rfl, ?_⟩; intro w hSw; (try dsimp only at hSw); go_simp; all_goals with_reducible rfl)
                  try simp only [Act.put, List.setIfInBounds_toArray, List.set_cons_zero, List.set_cons_succ]
                  refine wpAnyH_take (i := 30) (oi := ?oir95_30) (v := ?vr95_30) ?hir95_30 (by kernel_rfl) (by kernel_rfl) (by kernel_rfl) ?hqr95_30 ?hyr95_30 (by assumption) ?restr95_30
                  case hir95_30 => simp only [List.getElem?_toArray, List.getElem?_cons_succ, List.getElem?_cons_zero]; rfl
                  case hqr95_30 => exact fun _ _ _ h => h
                  case hyr95_30 => (refine Or.inl ⟨by rfl, ?_⟩; intro w hSw; (try dsimp only at hSw); go_simp; all_goals with_reducible rfl)
                  try simp only [Act.put, List.setIfInBounds_toArray, List.set_cons_zero, List.set_cons_succ]
                  refine wpAnyH_take (i := 31) (oi := ?oir95_31) (v := ?vr95_31) ?hir95_31 (by kernel_rfl) (by kernel_rfl) (by kernel_rfl) ?hqr95_31 ?hyr95_31 (by assumption) ?restr95_31
                  case hir95_31 => simp only [List.getElem?_toArray, List.getElem?_cons_succ, List.getElem?_cons_zero]; rfl
                  case hqr95_31 => exact fun _ _ _ h => h
                  case hyr95_31 => (refine Or.inl ⟨by rfl, ?_⟩; intro w hSw; (try dsimp only at hSw); go_simp; all_goals with_reducible rfl)
                  try simp only [Act.put, List.setIfInBounds_toArray, List.set_cons_zero, List.set_cons_succ]
                  refine wpAnyH_take (i := 32) (oi := ?oir95_32) (v := ?vr95_32) ?hir95_32 (by kernel_rfl) (by kernel_rfl) (by kernel_rfl) ?hqr95_32 ?hyr95_32 (by assumption) ?restr95_32
                  case hir95_32 => simp only [List.getElem?_toArray, List.getElem?_cons_succ, List.getElem?_cons_zero]; rfl
                  case hqr95_32 => exact fun _ _ _ h => h
                  case hyr95_32 => (refine Or.inl ⟨by rfl, ?_⟩; intro w hSw; (try dsimp only at hSw); go_simp; all_goals with_reducible rfl)
                  try simp only [Act.put, List.setIfInBounds_toArray, List.set_cons_zero, List.set_cons_succ]
                  refine wpAnyH_take (i := 33) (oi := ?oir95_33) (v := ?vr95_33) ?hir95_33 (by kernel_rfl) (by kernel_rfl) (by kernel_rfl) ?hqr95_33 ?hyr95_33 (by assumption) ?restr95_33
                  case hir95_33 => simp only [List.getElem?_toArray, List.getElem?_cons_succ, List.getElem?_cons_zero]; rfl
                  case hqr95_33 => exact fun _ _ _ h => h
                  case hyr95_33 => (refine Or.inl ⟨by rfl, ?_⟩; intro w hSw; (try dsimp only at hSw); go_simp; all_goals with_reducible rfl)
                  try simp only [Act.put, List.setIfInBounds_toArray, List.set_cons_zero, List.set_cons_succ]
                  refine wpAnyH_done (by kernel_rfl) ?_ _
                  clear hHeld kv l0 n0 l1 n1
                  go_wp2_with fail
                  go_roundw
                  case rel => exact ⟨k + 1, by omega, by go_num, B901⟩
                  case measure => simp [intOf]; omega
                case neg =>
                  have pe : (((p : Nat) : Int) == 3) = false := by simp; omega
                  have pd : decide (((p : Nat) : Int) = 3) = false := decide_eq_false (by omega)
                  have qe : (((q : Nat) : Int) == 3) = false := by simp; omega
                  have qd : decide (((q : Nat) : Int) = 3) = false := decide_eq_false (by omega)
                  obtain rfl : v = 0 := by rw [if_neg hp3, if_neg hq3] at i3; omega
                  clear i3 hp3 hq3
                  go_upto_region 26 with fail
                  clear l2 n2
                  have hb := (Below.refl wz.heap.size wz).drew
                  replace kv := cell_below hb kv
                  replace l0 := cell_below hb l0
                  replace n0 := cell_below hb n0
                  replace l1 := cell_below hb l1
                  replace n1 := cell_below hb n1
                  have B901 := B900.trans (hb.mono B900.size)
                  have h_l_901 := h_l_900.below hb
                  have h_n_901 := h_n_900.below hb
                  have h_v_901 := h_v_900.below hb
                  clear hb B900 h_l_900 h_n_900 h_v_900
                  refine wp_region_held_drew (S := (fun w' => w'.cell? ⟨g, k, none⟩ = some (.int .i64 ((0 : Nat) : Int)) ∧ w'.cell? ⟨bl, ol + k * 3, none⟩ = some (.string nmk) ∧ w'.cell? ⟨bn, on + k * 3, none⟩ = some (.string nmk) ∧ w'.cell? ⟨bl, ol + k * 3 + 1, none⟩ = some (.int .i64 pck) ∧ w'.cell? ⟨bn, on + k * 3 + 1, none⟩ = some (.int .i64 pck) ∧ True)) (by kernel_rfl) ?_ (fun hHeld => ?_)
                  · exact ⟨kv, l0, n0, l1, n1, trivial⟩
                  generalize wz.drew = w901 at *
                  refine wpAnyH_take (i := 0) (oi := ?oir96_0) (v := ?vr96_0) ?hir96_0 (by kernel_rfl) (by kernel_rfl) (by kernel_rfl) ?hqr96_0 ?hyr96_0 (by assumption) ?restr96_0
                  case hir96_0 => simp only [List.getElem?_toArray, List.getElem?_cons_succ, List.getElem?_cons_zero]; rfl
                  case hqr96_0 => exact fun _ _ _ h => h
                  case hyr96_0 => (refine Or.inl ⟨by rfl, ?_⟩; intro w hSw; (try dsimp only at hSw); go_simp; all_goals with_reducible rfl)
                  try simp only [Act.put, List.setIfInBounds_toArray, List.set_cons_zero, List.set_cons_succ]
                  refine wpAnyH_take (i := 1) (oi := ?oir96_1) (v := ?vr96_1) ?hir96_1 (by kernel_rfl) (by kernel_rfl) (by kernel_rfl) ?hqr96_1 ?hyr96_1 (by assumption) ?restr96_1
                  case hir96_1 => simp only [List.getElem?_toArray, List.getElem?_cons_succ, List.getElem?_cons_zero]; rfl
                  case hqr96_1 => exact fun _ _ _ h => h
                  case hyr96_1 => (refine Or.inl ⟨by rfl, ?_⟩; intro w hSw; (try dsimp only at hSw); go_simp; all_goals with_reducible rfl)
                  try simp only [Act.put, List.setIfInBounds_toArray, List.set_cons_zero, List.set_cons_succ]
                  refine wpAnyH_take (i := 2) (oi := ?oir96_2) (v := ?vr96_2) ?hir96_2 (by kernel_rfl) (by kernel_rfl) (by kernel_rfl) ?hqr96_2 ?hyr96_2 (by assumption) ?restr96_2
                  case hir96_2 => simp only [List.getElem?_toArray, List.getElem?_cons_succ, List.getElem?_cons_zero]; rfl
                  case hqr96_2 => exact fun _ _ _ h => h
                  case hyr96_2 => (refine Or.inl ⟨by rfl, ?_⟩; intro w hSw; (try dsimp only at hSw); go_simp; all_goals with_reducible rfl)
                  try simp only [Act.put, List.setIfInBounds_toArray, List.set_cons_zero, List.set_cons_succ]
                  refine wpAnyH_take (i := 3) (oi := ?oir96_3) (v := ?vr96_3) ?hir96_3 (by kernel_rfl) (by kernel_rfl) (by kernel_rfl) ?hqr96_3 ?hyr96_3 (by assumption) ?restr96_3
                  case hir96_3 => simp only [List.getElem?_toArray, List.getElem?_cons_succ, List.getElem?_cons_zero]; rfl
                  case hqr96_3 => exact fun _ _ _ h => h
                  case hyr96_3 => (refine Or.inl ⟨by rfl, ?_⟩; intro w hSw; (try dsimp only at hSw); go_simp; all_goals with_reducible rfl)
                  try simp only [Act.put, List.setIfInBounds_toArray, List.set_cons_zero, List.set_cons_succ]
                  refine wpAnyH_take (i := 4) (oi := ?oir96_4) (v := ?vr96_4) ?hir96_4 (by kernel_rfl) (by kernel_rfl) (by kernel_rfl) ?hqr96_4 ?hyr96_4 (by assumption) ?restr96_4
                  case hir96_4 => simp only [List.getElem?_toArray, List.getElem?_cons_succ, List.getElem?_cons_zero]; rfl
                  case hqr96_4 => exact fun _ _ _ h => h
                  case hyr96_4 => (refine Or.inl ⟨by rfl, ?_⟩; intro w hSw; (try dsimp only at hSw); go_simp; all_goals with_reducible rfl)
                  try simp only [Act.put, List.setIfInBounds_toArray, List.set_cons_zero, List.set_cons_succ]
                  refine wpAnyH_take (i := 5) (oi := ?oir96_5) (v := ?vr96_5) ?hir96_5 (by kernel_rfl) (by kernel_rfl) (by kernel_rfl) ?hqr96_5 ?hyr96_5 (by assumption) ?restr96_5
                  case hir96_5 => simp only [List.getElem?_toArray, List.getElem?_cons_succ, List.getElem?_cons_zero]; rfl
                  case hqr96_5 => exact fun _ _ _ h => h
                  case hyr96_5 => (refine Or.inl ⟨by rfl, ?_⟩; intro w hSw; (try dsimp only at hSw); go_simp; all_goals with_reducible rfl)
                  try simp only [Act.put, List.setIfInBounds_toArray, List.set_cons_zero, List.set_cons_succ]
                  refine wpAnyH_take (i := 6) (oi := ?oir96_6) (v := ?vr96_6) ?hir96_6 (by kernel_rfl) (by kernel_rfl) (by kernel_rfl) ?hqr96_6 ?hyr96_6 (by assumption) ?restr96_6
                  case hir96_6 => simp only [List.getElem?_toArray, List.getElem?_cons_succ, List.getElem?_cons_zero]; rfl
                  case hqr96_6 => exact fun _ _ _ h => h
                  case hyr96_6 => (refine Or.inl ⟨by rfl, ?_⟩; intro w hSw; (try dsimp only at hSw); go_simp; all_goals with_reducible rfl)
                  try simp only [Act.put, List.setIfInBounds_toArray, List.set_cons_zero, List.set_cons_succ]
                  refine wpAnyH_take (i := 7) (oi := ?oir96_7) (v := ?vr96_7) ?hir96_7 (by kernel_rfl) (by kernel_rfl) (by kernel_rfl) ?hqr96_7 ?hyr96_7 (by assumption) ?restr96_7
                  case hir96_7 => simp only [List.getElem?_toArray, List.getElem?_cons_succ, List.getElem?_cons_zero]; rfl
                  case hqr96_7 => exact fun _ _ _ h => h
                  case hyr96_7 => (refine Or.inl ⟨by rfl, ?_⟩; intro w hSw; (try dsimp only at hSw); go_simp; all_goals with_reducible rfl)
                  try simp only [Act.put, List.setIfInBounds_toArray, List.set_cons_zero, List.set_cons_succ]
                  refine wpAnyH_take (i := 8) (oi := ?oir96_8) (v := ?vr96_8) ?hir96_8 (by kernel_rfl) (by kernel_rfl) (by kernel_rfl) ?hqr96_8 ?hyr96_8 (by assumption) ?restr96_8
                  case hir96_8 => simp only [List.getElem?_toArray, List.getElem?_cons_succ, List.getElem?_cons_zero]; rfl
                  case hqr96_8 => exact fun _ _ _ h => h
                  case hyr96_8 => (refine Or.inl ⟨by rfl, ?_⟩; intro w hSw; (try dsimp only at hSw); go_simp; all_goals with_reducible rfl)
                  try simp only [Act.put, List.setIfInBounds_toArray, List.set_cons_zero, List.set_cons_succ]
                  refine wpAnyH_take (i := 9) (oi := ?oir96_9) (v := ?vr96_9) ?hir96_9 (by kernel_rfl) (by kernel_rfl) (by kernel_rfl) ?hqr96_9 ?hyr96_9 (by assumption) ?restr96_9
                  case hir96_9 => simp only [List.getElem?_toArray, List.getElem?_cons_succ, List.getElem?_cons_zero]; rfl
                  case hqr96_9 => exact fun _ _ _ h => h
                  case hyr96_9 => (refine Or.inl ⟨by rfl, ?_⟩; intro w hSw; (try dsimp only at hSw); go_simp; all_goals with_reducible rfl)
                  try simp only [Act.put, List.setIfInBounds_toArray, List.set_cons_zero, List.set_cons_succ]
                  refine wpAnyH_take (i := 10) (oi := ?oir96_10) (v := ?vr96_10) ?hir96_10 (by kernel_rfl) (by kernel_rfl) (by kernel_rfl) ?hqr96_10 ?hyr96_10 (by assumption) ?restr96_10
                  case hir96_10 => simp only [List.getElem?_toArray, List.getElem?_cons_succ, List.getElem?_cons_zero]; rfl
                  case hqr96_10 => exact fun _ _ _ h => h
                  case hyr96_10 => (refine Or.inl ⟨by rfl, ?_⟩; intro w hSw; (try dsimp only at hSw); go_simp; all_goals with_reducible rfl)
                  try simp only [Act.put, List.setIfInBounds_toArray, List.set_cons_zero, List.set_cons_succ]
                  refine wpAnyH_take (i := 11) (oi := ?oir96_11) (v := ?vr96_11) ?hir96_11 (by kernel_rfl) (by kernel_rfl) (by kernel_rfl) ?hqr96_11 ?hyr96_11 (by assumption) ?restr96_11
                  case hir96_11 => simp only [List.getElem?_toArray, List.getElem?_cons_succ, List.getElem?_cons_zero]; rfl
                  case hqr96_11 => exact fun _ _ _ h => h
                  case hyr96_11 => (refine Or.inl ⟨by rfl, ?_⟩; intro w hSw; (try dsimp only at hSw); go_simp; all_goals with_reducible rfl)
                  try simp only [Act.put, List.setIfInBounds_toArray, List.set_cons_zero, List.set_cons_succ]
                  refine wpAnyH_take (i := 12) (oi := ?oir96_12) (v := ?vr96_12) ?hir96_12 (by kernel_rfl) (by kernel_rfl) (by kernel_rfl) ?hqr96_12 ?hyr96_12 (by assumption) ?restr96_12
                  case hir96_12 => simp only [List.getElem?_toArray, List.getElem?_cons_succ, List.getElem?_cons_zero]; rfl
                  case hqr96_12 => exact fun _ _ _ h => h
                  case hyr96_12 => (refine Or.inl ⟨by rfl, ?_⟩; intro w hSw; (try dsimp only at hSw); go_simp; all_goals with_reducible rfl)
                  try simp only [Act.put, List.setIfInBounds_toArray, List.set_cons_zero, List.set_cons_succ]
                  refine wpAnyH_take (i := 13) (oi := ?oir96_13) (v := ?vr96_13) ?hir96_13 (by kernel_rfl) (by kernel_rfl) (by kernel_rfl) ?hqr96_13 ?hyr96_13 (by assumption) ?restr96_13
                  case hir96_13 => simp only [List.getElem?_toArray, List.getElem?_cons_succ, List.getElem?_cons_zero]; rfl
                  case hqr96_13 => exact fun _ _ _ h => h
                  case hyr96_13 => (refine Or.inl ⟨by rfl, ?_⟩; intro w hSw; (try dsimp only at hSw); go_simp; all_goals with_reducible rfl)
                  try simp only [Act.put, List.setIfInBounds_toArray, List.set_cons_zero, List.set_cons_succ]
                  refine wpAnyH_take (i := 14) (oi := ?oir96_14) (v := ?vr96_14) ?hir96_14 (by kernel_rfl) (by kernel_rfl) (by kernel_rfl) ?hqr96_14 ?hyr96_14 (by assumption) ?restr96_14
                  case hir96_14 => simp only [List.getElem?_toArray, List.getElem?_cons_succ, List.getElem?_cons_zero]; rfl
                  case hqr96_14 => exact fun _ _ _ h => h
                  case hyr96_14 => (refine Or.inl ⟨by rfl, ?_⟩; intro w hSw; (try dsimp only at hSw); go_simp; all_goals with_reducible rfl)
                  try simp only [Act.put, List.setIfInBounds_toArray, List.set_cons_zero, List.set_cons_succ]
                  refine wpAnyH_take (i := 15) (oi := ?oir96_15) (v := ?vr96_15) ?hir96_15 (by kernel_rfl) (by kernel_rfl) (by kernel_rfl) ?hqr96_15 ?hyr96_15 (by assumption) ?restr96_15
                  case hir96_15 => simp only [List.getElem?_toArray, List.getElem?_cons_succ, List.getElem?_cons_zero]; rfl
                  case hqr96_15 => exact fun _ _ _ h => h
                  case hyr96_15 => (refine Or.inl ⟨by rfl, ?_⟩; intro w hSw; (try dsimp only at hSw); go_simp; all_goals with_reducible rfl)
                  try simp only [Act.put, List.setIfInBounds_toArray, List.set_cons_zero, List.set_cons_succ]
                  refine wpAnyH_take (i := 16) (oi := ?oir96_16) (v := ?vr96_16) ?hir96_16 (by kernel_rfl) (by kernel_rfl) (by kernel_rfl) ?hqr96_16 ?hyr96_16 (by assumption) ?restr96_16
                  case hir96_16 => simp only [List.getElem?_toArray, List.getElem?_cons_succ, List.getElem?_cons_zero]; rfl
                  case hqr96_16 => exact fun _ _ _ h => h
                  case hyr96_16 => (refine Or.inl ⟨by rfl, ?_⟩; intro w hSw; (try dsimp only at hSw); go_simp; all_goals with_reducible rfl)
                  try simp only [Act.put, List.setIfInBounds_toArray, List.set_cons_zero, List.set_cons_succ]
                  refine wpAnyH_take (i := 17) (oi := ?oir96_17) (v := ?vr96_17) ?hir96_17 (by kernel_rfl) (by kernel_rfl) (by kernel_rfl) ?hqr96_17 ?hyr96_17 (by assumption) ?restr96_17
                  case hir96_17 => simp only [List.getElem?_toArray, List.getElem?_cons_succ, List.getElem?_cons_zero]; rfl
                  case hqr96_17 => exact fun _ _ _ h => h
                  case hyr96_17 => (refine Or.inl ⟨by rfl, ?_⟩; intro w hSw; (try dsimp only at hSw); go_simp; all_goals with_reducible rfl)
                  try simp only [Act.put, List.setIfInBounds_toArray, List.set_cons_zero, List.set_cons_succ]
                  refine wpAnyH_take (i := 18) (oi := ?oir96_18) (v := ?vr96_18) ?hir96_18 (by kernel_rfl) (by kernel_rfl) (by kernel_rfl) ?hqr96_18 ?hyr96_18 (by assumption) ?restr96_18
                  case hir96_18 => simp only [List.getElem?_toArray, List.getElem?_cons_succ, List.getElem?_cons_zero]; rfl
                  case hqr96_18 => exact fun _ _ _ h => h
                  case hyr96_18 => (refine Or.inl ⟨by rfl, ?_⟩; intro w hSw; (try dsimp only at hSw); go_simp; all_goals with_reducible rfl)
                  try simp only [Act.put, List.setIfInBounds_toArray, List.set_cons_zero, List.set_cons_succ]
                  refine wpAnyH_take (i := 19) (oi := ?oir96_19) (v := ?vr96_19) ?hir96_19 (by kernel_rfl) (by kernel_rfl) (by kernel_rfl) ?hqr96_19 ?hyr96_19 (by assumption) ?restr96_19
                  case hir96_19 => simp only [List.getElem?_toArray, List.getElem?_cons_succ, List.getElem?_cons_zero]; rfl
                  case hqr96_19 => exact fun _ _ _ h => h
                  case hyr96_19 => (refine Or.inl ⟨by rfl, ?_⟩; intro w hSw; (try dsimp only at hSw); go_simp; all_goals with_reducible rfl)
                  try simp only [Act.put, List.setIfInBounds_toArray, List.set_cons_zero, List.set_cons_succ]
                  refine wpAnyH_take (i := 20) (oi := ?oir96_20) (v := ?vr96_20) ?hir96_20 (by kernel_rfl) (by kernel_rfl) (by kernel_rfl) ?hqr96_20 ?hyr96_20 (by assumption) ?restr96_20
                  case hir96_20 => simp only [List.getElem?_toArray, List.getElem?_cons_succ, List.getElem?_cons_zero]; rfl
                  case hqr96_20 => exact fun _ _ _ h => h
                  case hyr96_20 => (refine Or.inl ⟨by rfl, ?_⟩; intro w hSw; (try dsimp only at hSw); go_simp; all_goals with_reducible rfl)
                  try simp only [Act.put, List.setIfInBounds_toArray, List.set_cons_zero, List.set_cons_succ]
                  refine wpAnyH_take (i := 21) (oi := ?oir96_21) (v := ?vr96_21) ?hir96_21 (by kernel_rfl) (by kernel_rfl) (by kernel_rfl) ?hqr96_21 ?hyr96_21 (by assumption) ?restr96_21
                  case hir96_21 => simp only [List.getElem?_toArray, List.getElem?_cons_succ, List.getElem?_cons_zero]; rfl
                  case hqr96_21 => exact fun _ _ _ h => h
                  case hyr96_21 => (refine Or.inl ⟨by rfl, ?_⟩; intro w hSw; (try dsimp only at hSw); go_simp; all_goals with_reducible rfl)
                  try simp only [Act.put, List.setIfInBounds_toArray, List.set_cons_zero, List.set_cons_succ]
                  refine wpAnyH_take (i := 22) (oi := ?oir96_22) (v := ?vr96_22) ?hir96_22 (by kernel_rfl) (by kernel_rfl) (by kernel_rfl) ?hqr96_22 ?hyr96_22 (by assumption) ?restr96_22
                  case hir96_22 => simp only [List.getElem?_toArray, List.getElem?_cons_succ, List.getElem?_cons_zero]; rfl
                  case hqr96_22 => exact fun _ _ _ h => h
                  case hyr96_22 => (refine Or.inl ⟨by rfl, ?_⟩; intro w hSw; (try dsimp only at hSw); go_simp; all_goals with_reducible rfl)
                  try simp only [Act.put, List.setIfInBounds_toArray, List.set_cons_zero, List.set_cons_succ]
                  refine wpAnyH_take (i := 23) (oi := ?oir96_23) (v := ?vr96_23) ?hir96_23 (by kernel_rfl) (by kernel_rfl) (by kernel_rfl) ?hqr96_23 ?hyr96_23 (by assumption) ?restr96_23
                  case hir96_23 => simp only [List.getElem?_toArray, List.getElem?_cons_succ, List.getElem?_cons_zero]; rfl
                  case hqr96_23 => exact fun _ _ _ h => h
                  case hyr96_23 => (refine Or.inl ⟨by rfl, ?_⟩; intro w hSw; (try dsimp only at hSw); go_simp; all_goals with_reducible rfl)
                  try simp only [Act.put, List.setIfInBounds_toArray, List.set_cons_zero, List.set_cons_succ]
                  refine wpAnyH_take (i := 24) (oi := ?oir96_24) (v := ?vr96_24) ?hir96_24 (by kernel_rfl) (by kernel_rfl) (by kernel_rfl) ?hqr96_24 ?hyr96_24 (by assumption) ?restr96_24
                  case hir96_24 => simp only [List.getElem?_toArray, List.getElem?_cons_succ, List.getElem?_cons_zero]; rfl
                  case hqr96_24 => exact fun _ _ _ h => h
                  case hyr96_24 => (refine Or.inl ⟨by rfl, ?_⟩; intro w hSw; (try dsimp only at hSw); go_simp; all_goals with_reducible rfl)
                  try simp only [Act.put, List.setIfInBounds_toArray, List.set_cons_zero, List.set_cons_succ]
                  refine wpAnyH_take (i := 25) (oi := ?oir96_25) (v := ?vr96_25) ?hir96_25 (by kernel_rfl) (by kernel_rfl) (by kernel_rfl) ?hqr96_25 ?hyr96_25 (by assumption) ?restr96_25
                  case hir96_25 => simp only [List.getElem?_toArray, List.getElem?_cons_succ, List.getElem?_cons_zero]; rfl
                  case hqr96_25 => exact fun _ _ _ h => h
                  case hyr96_25 => (refine Or.inl ⟨by rfl, ?_⟩; intro w hSw; (try dsimp only at hSw); go_simp; all_goals with_reducible rfl)
                  try simp only [Act.put, List.setIfInBounds_toArray, List.set_cons_zero, List.set_cons_succ]
                  refine wpAnyH_take (i := 26) (oi := ?oir96_26) (v := ?vr96_26) ?hir96_26 (by kernel_rfl) (by kernel_rfl) (by kernel_rfl) ?hqr96_26 ?hyr96_26 (by assumption) ?restr96_26
                  case hir96_26 => simp only [List.getElem?_toArray, List.getElem?_cons_succ, List.getElem?_cons_zero]; rfl
                  case hqr96_26 => exact fun _ _ _ h => h
                  case hyr96_26 => (refine Or.inl ⟨by rfl, ?_⟩; intro w hSw; (try dsimp only at hSw); go_simp; all_goals with_reducible rfl)
                  try simp only [Act.put, List.setIfInBounds_toArray, List.set_cons_zero, List.set_cons_succ]
                  refine wpAnyH_take (i := 27) (oi := ?oir96_27) (v := ?vr96_27) ?hir96_27 (by kernel_rfl) (by kernel_rfl) (by kernel_rfl) ?hqr96_27 ?hyr96_27 (by assumption) ?restr96_27
                  case hir96_27 => simp only [List.getElem?_toArray, List.getElem?_cons_succ, List.getElem?_cons_zero]; rfl
                  case hqr96_27 => exact fun _ _ _ h => h
                  case hyr96_27 => (refine Or.inl ⟨by rfl, ?_⟩; intro w hSw; (try dsimp only at hSw); go_simp; all_goals with_reducible rfl)
                  try simp only [Act.put, List.setIfInBounds_toArray, List.set_cons_zero, List.set_cons_succ]
                  refine wpAnyH_take (i := 28) (oi := ?oir96_28) (v := ?vr96_28) ?hir96_28 (by kernel_rfl) (by kernel_rfl) (by kernel_rfl) ?hqr96_28 ?hyr96_28 (by assumption) ?restr96_28
                  case hir96_28 => simp only [List.getElem?_toArray, List.getElem?_cons_succ, List.getElem?_cons_zero]; rfl
                  case hqr96_28 => exact fun _ _ _ h => h
                  case hyr96_28 => (refine Or.inl ⟨by rfl, ?_⟩; intro w hSw; (try dsimp only at hSw); go_simp; all_goals with_reducible rfl)
                  try simp only [Act.put, List.setIfInBounds_toArray, List.set_cons_zero, List.set_cons_succ]
                  refine wpAnyH_take (i := 29) (oi := ?oir96_29) (v := ?vr96_29) ?hir96_29 (by kernel_rfl) (by kernel_rfl) (by kernel_rfl) ?hqr96_29 ?hyr96_29 (by assumption) ?restr96_29
                  case hir96_29 => simp only [List.getElem?_toArray, List.getElem?_cons_succ, List.getElem?_cons_zero]; rfl
                  case hqr96_29 => exact fun _ _ _ h => h
                  case hyr96_29 => (refine Or.inl ⟨by rfl, ?_⟩; intro w hSw; (try dsimp only at hSw); go_simp; all_goals with_reducible rfl)
                  try simp only [Act.put, List.setIfInBounds_toArray, List.set_cons_zero, List.set_cons_succ]
                  refine wpAnyH_take (i := 30) (oi := ?oir96_30) (v := ?vr96_30) ?hir96_30 (by kernel_rfl) (by kernel_rfl) (by kernel_rfl) ?hqr96_30 ?hyr96_30 (by assumption) ?restr96_30
                  case hir96_30 => simp only [List.getElem?_toArray, List.getElem?_cons_succ, List.getElem?_cons_zero]; rfl
                  case hqr96_30 => exact fun _ _ _ h => h
                  case hyr96_30 => (refine Or.inl ⟨by rfl, ?_⟩; intro w hSw; (try dsimp only at hSw); go_simp; all_goals with_reducible rfl)
                  try simp only [Act.put, List.setIfInBounds_toArray, List.set_cons_zero, List.set_cons_succ]
                  refine wpAnyH_take (i := 31) (oi := ?oir96_31) (v := ?vr96_31) ?hir96_31 (by kernel_rfl) (by kernel_rfl) (by kernel_rfl) ?hqr96_31 ?hyr96_31 (by assumption) ?restr96_31
                  case hir96_31 => simp only [List.getElem?_toArray, List.getElem?_cons_succ, List.getElem?_cons_zero]; rfl
                  case hqr96_31 => exact fun _ _ _ h => h
                  case hyr96_31 => (refine Or.inl ⟨by rfl, ?_⟩; intro w hSw; (try dsimp only at hSw); go_simp; all_goals with_reducible rfl)
                  try simp only [Act.put, List.setIfInBounds_toArray, List.set_cons_zero, List.set_cons_succ]
                  refine wpAnyH_take (i := 32) (oi := ?oir96_32) (v := ?vr96_32) ?hir96_32 (by kernel_rfl) (by kernel_rfl) (by kernel_rfl) ?hqr96_32 ?hyr96_32 (by assumption) ?restr96_32
                  case hir96_32 => simp only [List.getElem?_toArray, List.getElem?_cons_succ, List.getElem?_cons_zero]; rfl
                  case hqr96_32 => exact fun _ _ _ h => h
                  case hyr96_32 => (refine Or.inl ⟨by rfl, ?_⟩; intro w hSw; (try dsimp only at hSw); go_simp; all_goals with_reducible rfl)
                  try simp only [Act.put, List.setIfInBounds_toArray, List.set_cons_zero, List.set_cons_succ]
                  refine wpAnyH_take (i := 33) (oi := ?oir96_33) (v := ?vr96_33) ?hir96_33 (by kernel_rfl) (by kernel_rfl) (by kernel_rfl) ?hqr96_33 ?hyr96_33 (by assumption) ?restr96_33
                  case hir96_33 => simp only [List.getElem?_toArray, List.getElem?_cons_succ, List.getElem?_cons_zero]; rfl
                  case hqr96_33 => exact fun _ _ _ h => h
                  case hyr96_33 => (refine Or.inl ⟨by rfl, ?_⟩; intro w hSw; (try dsimp only at hSw); go_simp; all_goals with_reducible rfl)
                  try simp only [Act.put, List.setIfInBounds_toArray, List.set_cons_zero, List.set_cons_succ]
                  refine wpAnyH_done (by kernel_rfl) ?_ _
                  clear hHeld kv l0 n0 l1 n1
                  go_wp2_with fail
                  go_roundw
                  case rel => exact ⟨k + 1, by omega, by go_num, B901⟩
                  case measure => simp [intOf]; omega

end Go.Proofs.Ytnjkfjecnicccaa
