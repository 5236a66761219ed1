/- Check of comparison audits. -/
import Derived.Test.YtmkcdlhhbnakiaaCmpC
import Derived.Deep.CutRange
namespace Go.Proofs.Ytmkcdlhhbnakiaa
open Go.RowKit Go.Suf
set_option linter.unusedVariables false
set_option linter.unusedSimpArgs false

def seenN (q : CV) : Nat → Int
  | 0 => q.s0
  | 1 => q.s1
  | 2 => q.s2
  | 3 => q.s3
  | _ => q.s4

/-- The error in front of the k-th count. -/
def eK (q : CV) : Nat → Int
  | 0 => (newCC q.bet q.ballots q.margin).2
  | k + 1 => if inS (seenN q k) then eK q k else 8

theorem eK_yes {q : CV} {k : Nat} (h : inS (seenN q k)) : eK q (k + 1) = eK q k := by
  show (if inS (seenN q k) then eK q k else 8) = _
  rw [if_pos h]
theorem eK_no {q : CV} {k : Nat} (h : ¬ inS (seenN q k)) : eK q (k + 1) = 8 := by
  show (if inS (seenN q k) then eK q k else 8) = _
  rw [if_neg h]

theorem eK_zero {q : CV} : eK q 5 = 0 ↔ mayC q.bet q.ballots q.margin ∧ seenOkC q = true := by
  have h0 : eK q 0 = 0 ↔ mayC q.bet q.ballots q.margin := by
    show (newCC q.bet q.ballots q.margin).2 = 0 ↔ _
    unfold newCC
    split
    · simp [*]
    · simp [*]
  have hs : ∀ k, eK q (k + 1) = 0 ↔ inS (seenN q k) ∧ eK q k = 0 := fun k => by
    by_cases h : inS (seenN q k)
    · rw [eK_yes h]; simp [h]
    · rw [eK_no h]; simp [h]
  rw [hs, hs, hs, hs, hs, h0]
  unfold seenOkC
  rw [decide_eq_true_eq]
  show inS q.s4 ∧ inS q.s3 ∧ inS q.s2 ∧ inS q.s1 ∧ inS q.s0 ∧ _ ↔ _
  constructor
  · rintro ⟨a, b, c, d, e, f⟩; exact ⟨f, e, d, c, b, a⟩
  · rintro ⟨f, e, d, c, b, a⟩; exact ⟨a, b, c, d, e, f⟩

theorem run_index5 (cs : Array Value) (k : Nat) (hk : k < 5) (v : Value) (hv : cs[k]? = some v) (W : World) : (Instr.index 22 (.agg cs) (.int .i64 (k : Nat))).run Try.prog W = .ok v W := by
  simp [Instr.index, asIntOf, run_underlying Try.underlying22, part, Try.isAgg3, Try.sizeOf3, hk, hv]

theorem chkC_no {q : CV} (h : ¬ (eK q 5 = 0 ∧ leC q.lev q.best = true ∧ leC [0, 0, 1] q.best = true ∧ leC q.best [0, 0, 0, 0, 1] = true)) : chkC q = 8 := by
  unfold chkC
  rw [if_neg]
  rintro ⟨a, b, c, d, e⟩
  exact h ⟨eK_zero.2 ⟨a, b⟩, c, d, e⟩

theorem chkC_yes {q : CV} (h : eK q 5 = 0 ∧ leC q.lev q.best = true ∧ leC [0, 0, 1] q.best = true ∧ leC q.best [0, 0, 0, 0, 1] = true) : chkC q = 0 := by
  unfold chkC
  rw [if_pos ⟨(eK_zero.1 h.1).1, (eK_zero.1 h.1).2, h.2.1, h.2.2.1, h.2.2.2⟩]

set_option maxRecDepth 100000 in
set_option maxHeartbeats 8000000 in
theorem cmCheck_any (w : World) {q : CV} {a b : Option Addr} {n m c d : Nat} (h1 : Rd .u32 w a n c q.lev) (h2 : Rd .u32 w b m d q.best) (hw : CW q) :
    Calls Try.prog 20 #[cmV q a n c b m d] w (RetIB w (chkC q)) := by
  obtain ⟨r, hr⟩ : ∃ r, r = chkC q := ⟨_, rfl⟩
  rw [← hr]
  have HR := Lib.hid hr
  clear hr
  have L1 := Has.new w (cmC q a n c b m d) 25
  have k0 := L1.cell 0 _ rfl
  have k1 := L1.cell 1 _ rfl
  have k2 := L1.cell 2 _ rfl
  go_enter Try.func20, Try.ntmps20
  go_wp2_with fail
  have cc := cmNew_any (w.alloc (.cells (cmC q a n c b m d) 25)) q.bet q.ballots q.margin
  refine cc.mono ?_
  rintro e1 w1 ⟨a1, n1, c1, b1, m1, d1, rfl, -, -, hb⟩
  clear cc k0 k1 k2
  have hA := below_al w1 (.cells (cmC (newCC q.bet q.ballots q.margin).1 a1 n1 c1 b1 m1 d1) 25)
  have LD := (L1.later hb).later hA
  have q1 := (h1.below L1.below).below hb |>.below hA
  have q2 := (h2.below L1.below).below hb |>.below hA
  have k3 := LD.cell 3 _ rfl
  have k4 := LD.cell 4 _ rfl
  have k5 := LD.cell 5 _ rfl
  have k6 := LD.cell 6 _ rfl
  have k7 := LD.cell 7 _ rfl
  clear hb hA L1 h1 h2
  go_wp2_with (refine wpList_store_new rfl 25 _ _ rfl atCmp _ _ _ rfl rfl rfl rfl (cm_one (newCC q.bet q.ballots q.margin).1 _ _ _ _ _ _) ?_)
  generalize (w1.alloc (.cells (cmC (newCC q.bet q.ballots q.margin).1 a1 n1 c1 b1 m1 d1) 25)) = W at *
  clear k3 k4 k5 k6 k7
  go_loopw [4, 19] (fun e i wr => ∃ (k : Nat), k ≤ 5 ∧ i = .int .i64 (k : Nat) ∧ e = .int .i64 (eK q k) ∧ wr = W) (fun _ i _ => 5 - (intOf i).toNat)
  case atStart => exact ⟨0, by decide, rfl, rfl, rfl⟩
  case round =>
    obtain ⟨k, hk, rfl, rfl, hW⟩ := hrel
    have hW := hW.symm
    subst hW
    by_cases hlt : k < 5
    · have five : k = 0 ∨ k = 1 ∨ k = 2 ∨ k = 3 ∨ k = 4 := by omega
      clear hlt hk
      rcases five with rfl | rfl | rfl | rfl | rfl
      · have ix : ∀ W, (Instr.index 22 (.agg #[.int .i64 q.s0, .int .i64 q.s1, .int .i64 q.s2, .int .i64 q.s3, .int .i64 q.s4]) (.int .i64 0)).run Try.prog W = .ok (.int .i64 q.s0) W := fun W => run_index5 _ 0 (by decide) _ rfl W
        by_cases hs : 0 ≤ q.s0 ∧ q.s0 ≤ 1000000
        · have D := Lib.hid (show decide (0 ≤ q.s0 ∧ q.s0 ≤ 1000000) = true from decide_eq_true hs)
          have NX := Lib.hid (show eK q 1 = eK q 0 from eK_yes (by unfold inS; exact hs))
          clear hs
          go_wp2_with fail
          have cc := within_any W q.s0 0 1000000
          rw [D.out] at cc
          refine cc.mono ?_
          rintro e1 w9 ⟨rfl, hw⟩
          have hw := hw.symm
          subst hw
          clear cc
          go_wp2_with fail
          go_roundw
          case rel => exact ⟨1, by decide, by go_num, by rw [NX.out], by first | rfl | trivial⟩
          case measure => simp [intOf]
        · have D := Lib.hid (show decide (0 ≤ q.s0 ∧ q.s0 ≤ 1000000) = false from decide_eq_false hs)
          have NX := Lib.hid (show eK q 1 = 8 from eK_no (by unfold inS; exact hs))
          clear hs
          go_wp2_with fail
          have cc := within_any W q.s0 0 1000000
          rw [D.out] at cc
          refine cc.mono ?_
          rintro e1 w9 ⟨rfl, hw⟩
          have hw := hw.symm
          subst hw
          clear cc
          go_wp2_with fail
          go_roundw
          case rel => exact ⟨1, by decide, by go_num, by rw [NX.out], by first | rfl | trivial⟩
          case measure => simp [intOf]
      · have ix : ∀ W, (Instr.index 22 (.agg #[.int .i64 q.s0, .int .i64 q.s1, .int .i64 q.s2, .int .i64 q.s3, .int .i64 q.s4]) (.int .i64 1)).run Try.prog W = .ok (.int .i64 q.s1) W := fun W => run_index5 _ 1 (by decide) _ rfl W
        by_cases hs : 0 ≤ q.s1 ∧ q.s1 ≤ 1000000
        · have D := Lib.hid (show decide (0 ≤ q.s1 ∧ q.s1 ≤ 1000000) = true from decide_eq_true hs)
          have NX := Lib.hid (show eK q 2 = eK q 1 from eK_yes (by unfold inS; exact hs))
          clear hs
          go_wp2_with fail
          have cc := within_any W q.s1 0 1000000
          rw [D.out] at cc
          refine cc.mono ?_
          rintro e1 w9 ⟨rfl, hw⟩
          have hw := hw.symm
          subst hw
          clear cc
          go_wp2_with fail
          go_roundw
          case rel => exact ⟨2, by decide, by go_num, by rw [NX.out], by first | rfl | trivial⟩
          case measure => simp [intOf]
        · have D := Lib.hid (show decide (0 ≤ q.s1 ∧ q.s1 ≤ 1000000) = false from decide_eq_false hs)
          have NX := Lib.hid (show eK q 2 = 8 from eK_no (by unfold inS; exact hs))
          clear hs
          go_wp2_with fail
          have cc := within_any W q.s1 0 1000000
          rw [D.out] at cc
          refine cc.mono ?_
          rintro e1 w9 ⟨rfl, hw⟩
          have hw := hw.symm
          subst hw
          clear cc
          go_wp2_with fail
          go_roundw
          case rel => exact ⟨2, by decide, by go_num, by rw [NX.out], by first | rfl | trivial⟩
          case measure => simp [intOf]
      · have ix : ∀ W, (Instr.index 22 (.agg #[.int .i64 q.s0, .int .i64 q.s1, .int .i64 q.s2, .int .i64 q.s3, .int .i64 q.s4]) (.int .i64 2)).run Try.prog W = .ok (.int .i64 q.s2) W := fun W => run_index5 _ 2 (by decide) _ rfl W
        by_cases hs : 0 ≤ q.s2 ∧ q.s2 ≤ 1000000
        · have D := Lib.hid (show decide (0 ≤ q.s2 ∧ q.s2 ≤ 1000000) = true from decide_eq_true hs)
          have NX := Lib.hid (show eK q 3 = eK q 2 from eK_yes (by unfold inS; exact hs))
          clear hs
          go_wp2_with fail
          have cc := within_any W q.s2 0 1000000
          rw [D.out] at cc
          refine cc.mono ?_
          rintro e1 w9 ⟨rfl, hw⟩
          have hw := hw.symm
          subst hw
          clear cc
          go_wp2_with fail
          go_roundw
          case rel => exact ⟨3, by decide, by go_num, by rw [NX.out], by first | rfl | trivial⟩
          case measure => simp [intOf]
        · have D := Lib.hid (show decide (0 ≤ q.s2 ∧ q.s2 ≤ 1000000) = false from decide_eq_false hs)
          have NX := Lib.hid (show eK q 3 = 8 from eK_no (by unfold inS; exact hs))
          clear hs
          go_wp2_with fail
          have cc := within_any W q.s2 0 1000000
          rw [D.out] at cc
          refine cc.mono ?_
          rintro e1 w9 ⟨rfl, hw⟩
          have hw := hw.symm
          subst hw
          clear cc
          go_wp2_with fail
          go_roundw
          case rel => exact ⟨3, by decide, by go_num, by rw [NX.out], by first | rfl | trivial⟩
          case measure => simp [intOf]
      · have ix : ∀ W, (Instr.index 22 (.agg #[.int .i64 q.s0, .int .i64 q.s1, .int .i64 q.s2, .int .i64 q.s3, .int .i64 q.s4]) (.int .i64 3)).run Try.prog W = .ok (.int .i64 q.s3) W := fun W => run_index5 _ 3 (by decide) _ rfl W
        by_cases hs : 0 ≤ q.s3 ∧ q.s3 ≤ 1000000
        · have D := Lib.hid (show decide (0 ≤ q.s3 ∧ q.s3 ≤ 1000000) = true from decide_eq_true hs)
          have NX := Lib.hid (show eK q 4 = eK q 3 from eK_yes (by unfold inS; exact hs))
          clear hs
          go_wp2_with fail
          have cc := within_any W q.s3 0 1000000
          rw [D.out] at cc
          refine cc.mono ?_
          rintro e1 w9 ⟨rfl, hw⟩
          have hw := hw.symm
          subst hw
          clear cc
          go_wp2_with fail
          go_roundw
          case rel => exact ⟨4, by decide, by go_num, by rw [NX.out], by first | rfl | trivial⟩
          case measure => simp [intOf]
        · have D := Lib.hid (show decide (0 ≤ q.s3 ∧ q.s3 ≤ 1000000) = false from decide_eq_false hs)
          have NX := Lib.hid (show eK q 4 = 8 from eK_no (by unfold inS; exact hs))
          clear hs
          go_wp2_with fail
          have cc := within_any W q.s3 0 1000000
          rw [D.out] at cc
          refine cc.mono ?_
          rintro e1 w9 ⟨rfl, hw⟩
          have hw := hw.symm
          subst hw
          clear cc
          go_wp2_with fail
          go_roundw
          case rel => exact ⟨4, by decide, by go_num, by rw [NX.out], by first | rfl | trivial⟩
          case measure => simp [intOf]
      · have ix : ∀ W, (Instr.index 22 (.agg #[.int .i64 q.s0, .int .i64 q.s1, .int .i64 q.s2, .int .i64 q.s3, .int .i64 q.s4]) (.int .i64 4)).run Try.prog W = .ok (.int .i64 q.s4) W := fun W => run_index5 _ 4 (by decide) _ rfl W
        by_cases hs : 0 ≤ q.s4 ∧ q.s4 ≤ 1000000
        · have D := Lib.hid (show decide (0 ≤ q.s4 ∧ q.s4 ≤ 1000000) = true from decide_eq_true hs)
          have NX := Lib.hid (show eK q 5 = eK q 4 from eK_yes (by unfold inS; exact hs))
          clear hs
          go_wp2_with fail
          have cc := within_any W q.s4 0 1000000
          rw [D.out] at cc
          refine cc.mono ?_
          rintro e1 w9 ⟨rfl, hw⟩
          have hw := hw.symm
          subst hw
          clear cc
          go_wp2_with fail
          go_roundw
          case rel => exact ⟨5, by decide, by go_num, by rw [NX.out], by first | rfl | trivial⟩
          case measure => simp [intOf]
        · have D := Lib.hid (show decide (0 ≤ q.s4 ∧ q.s4 ≤ 1000000) = false from decide_eq_false hs)
          have NX := Lib.hid (show eK q 5 = 8 from eK_no (by unfold inS; exact hs))
          clear hs
          go_wp2_with fail
          have cc := within_any W q.s4 0 1000000
          rw [D.out] at cc
          refine cc.mono ?_
          rintro e1 w9 ⟨rfl, hw⟩
          have hw := hw.symm
          subst hw
          clear cc
          go_wp2_with fail
          go_roundw
          case rel => exact ⟨5, by decide, by go_num, by rw [NX.out], by first | rfl | trivial⟩
          case measure => simp [intOf]
    · obtain rfl : k = 5 := by omega
      clear hk hlt
      obtain ⟨z, hz⟩ : ∃ z, z = eK q 5 := ⟨_, rfl⟩
      have HZ := Lib.hid hz
      rw [← hz]
      clear hz
      by_cases hb0 : z = 0
      case neg =>
        have dz : (z != 0) = true := by rw [bne_iff_ne]; exact hb0
        have e := Lib.hid (show r = 8 by rw [HR.out]; exact chkC_no (fun h => hb0 (HZ.out.trans h.1)))
        clear hb0
        go_upto_region 8 with fail
        have hb := (Below.refl W.heap.size W).drew
        have LD := LD.later hb
        have q1 := q1.below hb
        have q2 := q2.below hb
        clear hb
        refine wp_region_held_drew (S := (fun w' => w'.cell? ⟨w.heap.size, 8, none⟩ = some (.slice a n c) ∧ w'.cell? ⟨w.heap.size, 9, none⟩ = some (.slice b m d))) (by kernel_rfl) ?_ (fun hHeld => ?_)
        · exact ⟨LD.cell 8 _ rfl, LD.cell 9 _ rfl⟩
        generalize W.drew = WD at *
        refine wpAnyH_take (i := 0) (oi := ?oir1_0) (v := ?vr1_0) ?hir1_0 (by kernel_rfl) (by kernel_rfl) (by kernel_rfl) ?hqr1_0 ?hyr1_0 (by assumption) ?restr1_0
        case hir1_0 => simp only [List.getElem?_toArray, List.getElem?_cons_succ, List.getElem?_cons_zero]; rfl
        case hqr1_0 => exact fun _ _ _ h => h
        case hyr1_0 => (refine Or.inl ⟨by rfl, ?_⟩; intro w hSw; (try dsimp only at hSw); go_simp; all_goals with_reducible rfl)
        try simp only [Act.put, List.setIfInBounds_toArray, List.set_cons_zero, List.set_cons_succ]
        refine wpAnyH_take (i := 1) (oi := ?oir1_1) (v := ?vr1_1) ?hir1_1 (by kernel_rfl) (by kernel_rfl) (by kernel_rfl) ?hqr1_1 ?hyr1_1 (by assumption) ?restr1_1
        case hir1_1 => simp only [List.getElem?_toArray, List.getElem?_cons_succ, List.getElem?_cons_zero]; rfl
        case hqr1_1 => exact fun _ _ _ h => h
        case hyr1_1 => (refine Or.inl ⟨by rfl, ?_⟩; intro w hSw; (try dsimp only at hSw); go_simp; all_goals with_reducible rfl)
        try simp only [Act.put, List.setIfInBounds_toArray, List.set_cons_zero, List.set_cons_succ]
        refine wpAnyH_take (i := 2) (oi := ?oir1_2) (v := ?vr1_2) ?hir1_2 (by kernel_rfl) (by kernel_rfl) (by kernel_rfl) ?hqr1_2 ?hyr1_2 (by assumption) ?restr1_2
        case hir1_2 => simp only [List.getElem?_toArray, List.getElem?_cons_succ, List.getElem?_cons_zero]; rfl
        case hqr1_2 => exact fun _ _ _ h => h
        case hyr1_2 => (refine Or.inl ⟨by rfl, ?_⟩; intro w hSw; (try dsimp only at hSw); go_simp; all_goals with_reducible rfl)
        try simp only [Act.put, List.setIfInBounds_toArray, List.set_cons_zero, List.set_cons_succ]
        refine wpAnyH_take (i := 3) (oi := ?oir1_3) (v := undef) ?hir1_3 (by kernel_rfl) (by kernel_rfl) (by kernel_rfl) ?hqr1_3 ?hyr1_3 (by assumption) ?restr1_3
        case hir1_3 => simp only [List.getElem?_toArray, List.getElem?_cons_succ, List.getElem?_cons_zero]; rfl
        case hqr1_3 => exact fun _ _ _ h => h
        case hyr1_3 => exact Or.inr ⟨by rfl, rfl⟩
        try simp only [Act.put, List.setIfInBounds_toArray, List.set_cons_zero, List.set_cons_succ]
        refine wpAnyH_take (i := 4) (oi := ?oir1_4) (v := undef) ?hir1_4 (by kernel_rfl) (by kernel_rfl) (by kernel_rfl) ?hqr1_4 ?hyr1_4 (by assumption) ?restr1_4
        case hir1_4 => simp only [List.getElem?_toArray, List.getElem?_cons_succ, List.getElem?_cons_zero]; rfl
        case hqr1_4 => exact fun _ _ _ h => h
        case hyr1_4 => exact Or.inr ⟨by rfl, rfl⟩
        try simp only [Act.put, List.setIfInBounds_toArray, List.set_cons_zero, List.set_cons_succ]
        refine wpAnyH_take (i := 5) (oi := ?oir1_5) (v := undef) ?hir1_5 (by kernel_rfl) (by kernel_rfl) (by kernel_rfl) ?hqr1_5 ?hyr1_5 (by assumption) ?restr1_5
        case hir1_5 => simp only [List.getElem?_toArray, List.getElem?_cons_succ, List.getElem?_cons_zero]; rfl
        case hqr1_5 => exact fun _ _ _ h => h
        case hyr1_5 => exact Or.inr ⟨by rfl, rfl⟩
        try simp only [Act.put, List.setIfInBounds_toArray, List.set_cons_zero, List.set_cons_succ]
        refine wpAnyH_take (i := 6) (oi := ?oir1_6) (v := undef) ?hir1_6 (by kernel_rfl) (by kernel_rfl) (by kernel_rfl) ?hqr1_6 ?hyr1_6 (by assumption) ?restr1_6
        case hir1_6 => simp only [List.getElem?_toArray, List.getElem?_cons_succ, List.getElem?_cons_zero]; rfl
        case hqr1_6 => exact fun _ _ _ h => h
        case hyr1_6 => exact Or.inr ⟨by rfl, rfl⟩
        try simp only [Act.put, List.setIfInBounds_toArray, List.set_cons_zero, List.set_cons_succ]
        refine wpAnyH_take (i := 7) (oi := ?oir1_7) (v := undef) ?hir1_7 (by kernel_rfl) (by kernel_rfl) (by kernel_rfl) ?hqr1_7 ?hyr1_7 (by assumption) ?restr1_7
        case hir1_7 => simp only [List.getElem?_toArray, List.getElem?_cons_succ, List.getElem?_cons_zero]; rfl
        case hqr1_7 => exact fun _ _ _ h => h
        case hyr1_7 => exact Or.inr ⟨by rfl, rfl⟩
        try simp only [Act.put, List.setIfInBounds_toArray, List.set_cons_zero, List.set_cons_succ]
        refine wpAnyH_take (i := 8) (oi := ?oir1_8) (v := undef) ?hir1_8 (by kernel_rfl) (by kernel_rfl) (by kernel_rfl) ?hqr1_8 ?hyr1_8 (by assumption) ?restr1_8
        case hir1_8 => simp only [List.getElem?_toArray, List.getElem?_cons_succ, List.getElem?_cons_zero]; rfl
        case hqr1_8 => exact fun _ _ _ h => h
        case hyr1_8 => exact Or.inr ⟨by rfl, rfl⟩
        try simp only [Act.put, List.setIfInBounds_toArray, List.set_cons_zero, List.set_cons_succ]
        refine wpAnyH_take (i := 9) (oi := ?oir1_9) (v := ?vr1_9) ?hir1_9 (by kernel_rfl) (by kernel_rfl) (by kernel_rfl) ?hqr1_9 ?hyr1_9 (by assumption) ?restr1_9
        case hir1_9 => simp only [List.getElem?_toArray, List.getElem?_cons_succ, List.getElem?_cons_zero]; rfl
        case hqr1_9 => exact fun _ _ _ h => h
        case hyr1_9 => (refine Or.inl ⟨by rfl, ?_⟩; intro w hSw; (try dsimp only at hSw); go_simp; all_goals with_reducible rfl)
        try simp only [Act.put, List.setIfInBounds_toArray, List.set_cons_zero, List.set_cons_succ]
        refine wpAnyH_take (i := 10) (oi := ?oir1_10) (v := ?vr1_10) ?hir1_10 (by kernel_rfl) (by kernel_rfl) (by kernel_rfl) ?hqr1_10 ?hyr1_10 (by assumption) ?restr1_10
        case hir1_10 => simp only [List.getElem?_toArray, List.getElem?_cons_succ, List.getElem?_cons_zero]; rfl
        case hqr1_10 => exact fun _ _ _ h => h
        case hyr1_10 => (refine Or.inl ⟨by rfl, ?_⟩; intro w hSw; (try dsimp only at hSw); go_simp; all_goals with_reducible rfl)
        try simp only [Act.put, List.setIfInBounds_toArray, List.set_cons_zero, List.set_cons_succ]
        refine wpAnyH_take (i := 11) (oi := ?oir1_11) (v := undef) ?hir1_11 (by kernel_rfl) (by kernel_rfl) (by kernel_rfl) ?hqr1_11 ?hyr1_11 (by assumption) ?restr1_11
        case hir1_11 => simp only [List.getElem?_toArray, List.getElem?_cons_succ, List.getElem?_cons_zero]; rfl
        case hqr1_11 => exact fun _ _ _ h => h
        case hyr1_11 => exact Or.inr ⟨by rfl, rfl⟩
        try simp only [Act.put, List.setIfInBounds_toArray, List.set_cons_zero, List.set_cons_succ]
        refine wpAnyH_take (i := 12) (oi := ?oir1_12) (v := undef) ?hir1_12 (by kernel_rfl) (by kernel_rfl) (by kernel_rfl) ?hqr1_12 ?hyr1_12 (by assumption) ?restr1_12
        case hir1_12 => simp only [List.getElem?_toArray, List.getElem?_cons_succ, List.getElem?_cons_zero]; rfl
        case hqr1_12 => exact fun _ _ _ h => h
        case hyr1_12 => exact Or.inr ⟨by rfl, rfl⟩
        try simp only [Act.put, List.setIfInBounds_toArray, List.set_cons_zero, List.set_cons_succ]
        refine wpAnyH_take (i := 13) (oi := ?oir1_13) (v := undef) ?hir1_13 (by kernel_rfl) (by kernel_rfl) (by kernel_rfl) ?hqr1_13 ?hyr1_13 (by assumption) ?restr1_13
        case hir1_13 => simp only [List.getElem?_toArray, List.getElem?_cons_succ, List.getElem?_cons_zero]; rfl
        case hqr1_13 => exact fun _ _ _ h => h
        case hyr1_13 => exact Or.inr ⟨by rfl, rfl⟩
        try simp only [Act.put, List.setIfInBounds_toArray, List.set_cons_zero, List.set_cons_succ]
        refine wpAnyH_take (i := 14) (oi := ?oir1_14) (v := undef) ?hir1_14 (by kernel_rfl) (by kernel_rfl) (by kernel_rfl) ?hqr1_14 ?hyr1_14 (by assumption) ?restr1_14
        case hir1_14 => simp only [List.getElem?_toArray, List.getElem?_cons_succ, List.getElem?_cons_zero]; rfl
        case hqr1_14 => exact fun _ _ _ h => h
        case hyr1_14 => exact Or.inr ⟨by rfl, rfl⟩
        try simp only [Act.put, List.setIfInBounds_toArray, List.set_cons_zero, List.set_cons_succ]
        refine wpAnyH_take (i := 15) (oi := ?oir1_15) (v := undef) ?hir1_15 (by kernel_rfl) (by kernel_rfl) (by kernel_rfl) ?hqr1_15 ?hyr1_15 (by assumption) ?restr1_15
        case hir1_15 => simp only [List.getElem?_toArray, List.getElem?_cons_succ, List.getElem?_cons_zero]; rfl
        case hqr1_15 => exact fun _ _ _ h => h
        case hyr1_15 => exact Or.inr ⟨by rfl, rfl⟩
        try simp only [Act.put, List.setIfInBounds_toArray, List.set_cons_zero, List.set_cons_succ]
        refine wpAnyH_take (i := 16) (oi := ?oir1_16) (v := ?vr1_16) ?hir1_16 (by kernel_rfl) (by kernel_rfl) (by kernel_rfl) ?hqr1_16 ?hyr1_16 (by assumption) ?restr1_16
        case hir1_16 => simp only [List.getElem?_toArray, List.getElem?_cons_succ, List.getElem?_cons_zero]; rfl
        case hqr1_16 => exact fun _ _ _ h => h
        case hyr1_16 => (refine Or.inl ⟨by rfl, ?_⟩; intro w hSw; (try dsimp only at hSw); go_simp; all_goals with_reducible rfl)
        try simp only [Act.put, List.setIfInBounds_toArray, List.set_cons_zero, List.set_cons_succ]
        refine wpAnyH_take (i := 17) (oi := ?oir1_17) (v := ?vr1_17) ?hir1_17 (by kernel_rfl) (by kernel_rfl) (by kernel_rfl) ?hqr1_17 ?hyr1_17 (by assumption) ?restr1_17
        case hir1_17 => simp only [List.getElem?_toArray, List.getElem?_cons_succ, List.getElem?_cons_zero]; rfl
        case hqr1_17 => exact fun _ _ _ h => h
        case hyr1_17 => (refine Or.inl ⟨by rfl, ?_⟩; intro w hSw; (try dsimp only at hSw); go_simp; all_goals with_reducible rfl)
        try simp only [Act.put, List.setIfInBounds_toArray, List.set_cons_zero, List.set_cons_succ]
        refine wpAnyH_take (i := 18) (oi := ?oir1_18) (v := undef) ?hir1_18 (by kernel_rfl) (by kernel_rfl) (by kernel_rfl) ?hqr1_18 ?hyr1_18 (by assumption) ?restr1_18
        case hir1_18 => simp only [List.getElem?_toArray, List.getElem?_cons_succ, List.getElem?_cons_zero]; rfl
        case hqr1_18 => exact fun _ _ _ h => h
        case hyr1_18 => exact Or.inr ⟨by rfl, rfl⟩
        try simp only [Act.put, List.setIfInBounds_toArray, List.set_cons_zero, List.set_cons_succ]
        refine wpAnyH_take (i := 19) (oi := ?oir1_19) (v := undef) ?hir1_19 (by kernel_rfl) (by kernel_rfl) (by kernel_rfl) ?hqr1_19 ?hyr1_19 (by assumption) ?restr1_19
        case hir1_19 => simp only [List.getElem?_toArray, List.getElem?_cons_succ, List.getElem?_cons_zero]; rfl
        case hqr1_19 => exact fun _ _ _ h => h
        case hyr1_19 => exact Or.inr ⟨by rfl, rfl⟩
        try simp only [Act.put, List.setIfInBounds_toArray, List.set_cons_zero, List.set_cons_succ]
        refine wpAnyH_take (i := 20) (oi := ?oir1_20) (v := undef) ?hir1_20 (by kernel_rfl) (by kernel_rfl) (by kernel_rfl) ?hqr1_20 ?hyr1_20 (by assumption) ?restr1_20
        case hir1_20 => simp only [List.getElem?_toArray, List.getElem?_cons_succ, List.getElem?_cons_zero]; rfl
        case hqr1_20 => exact fun _ _ _ h => h
        case hyr1_20 => exact Or.inr ⟨by rfl, rfl⟩
        try simp only [Act.put, List.setIfInBounds_toArray, List.set_cons_zero, List.set_cons_succ]
        refine wpAnyH_take (i := 21) (oi := ?oir1_21) (v := undef) ?hir1_21 (by kernel_rfl) (by kernel_rfl) (by kernel_rfl) ?hqr1_21 ?hyr1_21 (by assumption) ?restr1_21
        case hir1_21 => simp only [List.getElem?_toArray, List.getElem?_cons_succ, List.getElem?_cons_zero]; rfl
        case hqr1_21 => exact fun _ _ _ h => h
        case hyr1_21 => exact Or.inr ⟨by rfl, rfl⟩
        try simp only [Act.put, List.setIfInBounds_toArray, List.set_cons_zero, List.set_cons_succ]
        refine wpAnyH_take (i := 22) (oi := ?oir1_22) (v := undef) ?hir1_22 (by kernel_rfl) (by kernel_rfl) (by kernel_rfl) ?hqr1_22 ?hyr1_22 (by assumption) ?restr1_22
        case hir1_22 => simp only [List.getElem?_toArray, List.getElem?_cons_succ, List.getElem?_cons_zero]; rfl
        case hqr1_22 => exact fun _ _ _ h => h
        case hyr1_22 => exact Or.inr ⟨by rfl, rfl⟩
        try simp only [Act.put, List.setIfInBounds_toArray, List.set_cons_zero, List.set_cons_succ]
        refine wpAnyH_take (i := 23) (oi := ?oir1_23) (v := ?vr1_23) ?hir1_23 (by kernel_rfl) (by kernel_rfl) (by kernel_rfl) ?hqr1_23 ?hyr1_23 (by assumption) ?restr1_23
        case hir1_23 => simp only [List.getElem?_toArray, List.getElem?_cons_succ, List.getElem?_cons_zero]; rfl
        case hqr1_23 => exact fun _ _ _ h => h
        case hyr1_23 => (refine Or.inl ⟨by rfl, ?_⟩; intro w hSw; (try dsimp only at hSw); go_simp; all_goals with_reducible rfl)
        try simp only [Act.put, List.setIfInBounds_toArray, List.set_cons_zero, List.set_cons_succ]
        refine wpAnyH_done (by kernel_rfl) ?_ _
        go_wp2_with fail
        go_ret
        exact ⟨by rw [e.out]; rfl, LD.below⟩
      case pos =>
      subst hb0
      cases c1 : leC q.lev q.best
      case false =>
        have e := Lib.hid (show r = 8 by rw [HR.out]; exact chkC_no (fun h => by have := h.2.1; rw [c1] at this; simp at this))
        have E1 := Lib.hid c1
        clear c1
        go_upto_region 8 with fail
        have hb := (Below.refl W.heap.size W).drew
        have LD := LD.later hb
        have q1 := q1.below hb
        have q2 := q2.below hb
        clear hb
        refine wp_region_held_drew (S := (fun w' => w'.cell? ⟨w.heap.size, 8, none⟩ = some (.slice a n c) ∧ w'.cell? ⟨w.heap.size, 9, none⟩ = some (.slice b m d))) (by kernel_rfl) ?_ (fun hHeld => ?_)
        · exact ⟨LD.cell 8 _ rfl, LD.cell 9 _ rfl⟩
        generalize W.drew = WD at *
        refine wpAnyH_take (i := 0) (oi := ?oir2_0) (v := ?vr2_0) ?hir2_0 (by kernel_rfl) (by kernel_rfl) (by kernel_rfl) ?hqr2_0 ?hyr2_0 (by assumption) ?restr2_0
        case hir2_0 => simp only [List.getElem?_toArray, List.getElem?_cons_succ, List.getElem?_cons_zero]; rfl
        case hqr2_0 => exact fun _ _ _ h => h
        case hyr2_0 => (refine Or.inl ⟨by rfl, ?_⟩; intro w hSw; (try dsimp only at hSw); go_simp; all_goals with_reducible rfl)
        try simp only [Act.put, List.setIfInBounds_toArray, List.set_cons_zero, List.set_cons_succ]
        refine wpAnyH_take (i := 1) (oi := ?oir2_1) (v := ?vr2_1) ?hir2_1 (by kernel_rfl) (by kernel_rfl) (by kernel_rfl) ?hqr2_1 ?hyr2_1 (by assumption) ?restr2_1
        case hir2_1 => simp only [List.getElem?_toArray, List.getElem?_cons_succ, List.getElem?_cons_zero]; rfl
        case hqr2_1 => exact fun _ _ _ h => h
        case hyr2_1 => (refine Or.inl ⟨by rfl, ?_⟩; intro w hSw; (try dsimp only at hSw); go_simp; all_goals with_reducible rfl)
        try simp only [Act.put, List.setIfInBounds_toArray, List.set_cons_zero, List.set_cons_succ]
        refine wpAnyH_take (i := 2) (oi := ?oir2_2) (v := ?vr2_2) ?hir2_2 (by kernel_rfl) (by kernel_rfl) (by kernel_rfl) ?hqr2_2 ?hyr2_2 (by assumption) ?restr2_2
        case hir2_2 => simp only [List.getElem?_toArray, List.getElem?_cons_succ, List.getElem?_cons_zero]; rfl
        case hqr2_2 => exact fun _ _ _ h => h
        case hyr2_2 => (refine Or.inl ⟨by rfl, ?_⟩; intro w hSw; (try dsimp only at hSw); go_simp; all_goals with_reducible rfl)
        try simp only [Act.put, List.setIfInBounds_toArray, List.set_cons_zero, List.set_cons_succ]
        refine wpAnyH_take (i := 3) (oi := ?oir2_3) (v := ?vr2_3) ?hir2_3 (by kernel_rfl) (by kernel_rfl) (by kernel_rfl) ?hqr2_3 ?hyr2_3 (by assumption) ?restr2_3
        case hir2_3 => simp only [List.getElem?_toArray, List.getElem?_cons_succ, List.getElem?_cons_zero]; rfl
        case hqr2_3 => exact fun _ _ _ h => h
        case hyr2_3 => (refine Or.inl ⟨by rfl, ?_⟩; intro w hSw; (try dsimp only at hSw); go_simp; all_goals with_reducible rfl)
        try simp only [Act.put, List.setIfInBounds_toArray, List.set_cons_zero, List.set_cons_succ]
        refine wpAnyH_take (i := 4) (oi := ?oir2_4) (v := ?vr2_4) ?hir2_4 (by kernel_rfl) (by kernel_rfl) (by kernel_rfl) ?hqr2_4 ?hyr2_4 (by assumption) ?restr2_4
        case hir2_4 => simp only [List.getElem?_toArray, List.getElem?_cons_succ, List.getElem?_cons_zero]; rfl
        case hqr2_4 => exact fun _ _ _ h => h
        case hyr2_4 => (refine Or.inl ⟨by rfl, ?_⟩; intro w hSw; (try dsimp only at hSw); go_simp; all_goals with_reducible rfl)
        try simp only [Act.put, List.setIfInBounds_toArray, List.set_cons_zero, List.set_cons_succ]
        refine wpAnyH_take (i := 5) (oi := ?oir2_5) (v := ?vr2_5) ?hir2_5 (by kernel_rfl) (by kernel_rfl) (by kernel_rfl) ?hqr2_5 ?hyr2_5 (by assumption) ?restr2_5
        case hir2_5 => simp only [List.getElem?_toArray, List.getElem?_cons_succ, List.getElem?_cons_zero]; rfl
        case hqr2_5 => exact fun _ _ _ h => h
        case hyr2_5 => (refine Or.inl ⟨by rfl, ?_⟩; intro w hSw; (try dsimp only at hSw); go_simp; all_goals with_reducible rfl)
        try simp only [Act.put, List.setIfInBounds_toArray, List.set_cons_zero, List.set_cons_succ]
        refine wpAnyH_take (i := 6) (oi := ?oir2_6) (v := ?vr2_6) ?hir2_6 (by kernel_rfl) (by kernel_rfl) (by kernel_rfl) ?hqr2_6 ?hyr2_6 (by assumption) ?restr2_6
        case hir2_6 => simp only [List.getElem?_toArray, List.getElem?_cons_succ, List.getElem?_cons_zero]; rfl
        case hqr2_6 => exact fun _ _ _ h => h
        case hyr2_6 => (refine Or.inl ⟨by rfl, ?_⟩; intro w hSw; (try dsimp only at hSw); go_simp; all_goals with_reducible rfl)
        try simp only [Act.put, List.setIfInBounds_toArray, List.set_cons_zero, List.set_cons_succ]
        refine wpAnyH_ready (rs := [7]) (by kernel_rfl) (by simp) ?_
        refine AllReadyH.cons (o := ?or3_7) ?hor3_7 (fun K hK => ?kr3_7) AllReadyH.nil
        case hor3_7 => simp only [List.getElem?_toArray, List.getElem?_cons_succ, List.getElem?_cons_zero]; rfl
        go_simp
        have cc := cmAtMost_any _ q1 q2
        rw [E1.out] at cc
        refine cc.mono ?_
        rintro e2 wq ⟨rfl, hb⟩
        clear cc
        have LD := LD.later hb
        have q1 := q1.below hb
        have q2 := q2.below hb
        clear hb
        go_wp2_with fail
        refine hK.out _ _ ?_ (fun hHeld => ?_)
        · exact ⟨LD.cell 8 _ rfl, LD.cell 9 _ rfl⟩
        clear hK K
        try simp only [Act.put, List.setIfInBounds_toArray, List.set_cons_zero, List.set_cons_succ]
        refine wpAnyH_take (i := 8) (oi := ?oir4_8) (v := ?vr4_8) ?hir4_8 (by kernel_rfl) (by kernel_rfl) (by kernel_rfl) ?hqr4_8 ?hyr4_8 (by assumption) ?restr4_8
        case hir4_8 => simp only [List.getElem?_toArray, List.getElem?_cons_succ, List.getElem?_cons_zero]; rfl
        case hqr4_8 => exact fun _ _ _ h => h
        case hyr4_8 => (refine Or.inl ⟨by rfl, ?_⟩; intro w hSw; (try dsimp only at hSw); go_simp; all_goals with_reducible rfl)
        try simp only [Act.put, List.setIfInBounds_toArray, List.set_cons_zero, List.set_cons_succ]
        refine wpAnyH_take (i := 9) (oi := ?oir4_9) (v := ?vr4_9) ?hir4_9 (by kernel_rfl) (by kernel_rfl) (by kernel_rfl) ?hqr4_9 ?hyr4_9 (by assumption) ?restr4_9
        case hir4_9 => simp only [List.getElem?_toArray, List.getElem?_cons_succ, List.getElem?_cons_zero]; rfl
        case hqr4_9 => exact fun _ _ _ h => h
        case hyr4_9 => (refine Or.inl ⟨by rfl, ?_⟩; intro w hSw; (try dsimp only at hSw); go_simp; all_goals with_reducible rfl)
        try simp only [Act.put, List.setIfInBounds_toArray, List.set_cons_zero, List.set_cons_succ]
        refine wpAnyH_take (i := 10) (oi := ?oir4_10) (v := ?vr4_10) ?hir4_10 (by kernel_rfl) (by kernel_rfl) (by kernel_rfl) ?hqr4_10 ?hyr4_10 (by assumption) ?restr4_10
        case hir4_10 => simp only [List.getElem?_toArray, List.getElem?_cons_succ, List.getElem?_cons_zero]; rfl
        case hqr4_10 => exact fun _ _ _ h => h
        case hyr4_10 => (refine Or.inl ⟨by rfl, ?_⟩; intro w hSw; (try dsimp only at hSw); go_simp; all_goals with_reducible rfl)
        try simp only [Act.put, List.setIfInBounds_toArray, List.set_cons_zero, List.set_cons_succ]
        refine wpAnyH_take (i := 11) (oi := ?oir5_11) (v := undef) ?hir5_11 (by kernel_rfl) (by kernel_rfl) (by kernel_rfl) ?hqr5_11 ?hyr5_11 (by assumption) ?restr5_11
        case hir5_11 => simp only [List.getElem?_toArray, List.getElem?_cons_succ, List.getElem?_cons_zero]; rfl
        case hqr5_11 => exact fun _ _ _ h => h
        case hyr5_11 => exact Or.inr ⟨by rfl, rfl⟩
        try simp only [Act.put, List.setIfInBounds_toArray, List.set_cons_zero, List.set_cons_succ]
        refine wpAnyH_take (i := 12) (oi := ?oir5_12) (v := undef) ?hir5_12 (by kernel_rfl) (by kernel_rfl) (by kernel_rfl) ?hqr5_12 ?hyr5_12 (by assumption) ?restr5_12
        case hir5_12 => simp only [List.getElem?_toArray, List.getElem?_cons_succ, List.getElem?_cons_zero]; rfl
        case hqr5_12 => exact fun _ _ _ h => h
        case hyr5_12 => exact Or.inr ⟨by rfl, rfl⟩
        try simp only [Act.put, List.setIfInBounds_toArray, List.set_cons_zero, List.set_cons_succ]
        refine wpAnyH_take (i := 13) (oi := ?oir5_13) (v := undef) ?hir5_13 (by kernel_rfl) (by kernel_rfl) (by kernel_rfl) ?hqr5_13 ?hyr5_13 (by assumption) ?restr5_13
        case hir5_13 => simp only [List.getElem?_toArray, List.getElem?_cons_succ, List.getElem?_cons_zero]; rfl
        case hqr5_13 => exact fun _ _ _ h => h
        case hyr5_13 => exact Or.inr ⟨by rfl, rfl⟩
        try simp only [Act.put, List.setIfInBounds_toArray, List.set_cons_zero, List.set_cons_succ]
        refine wpAnyH_take (i := 14) (oi := ?oir5_14) (v := undef) ?hir5_14 (by kernel_rfl) (by kernel_rfl) (by kernel_rfl) ?hqr5_14 ?hyr5_14 (by assumption) ?restr5_14
        case hir5_14 => simp only [List.getElem?_toArray, List.getElem?_cons_succ, List.getElem?_cons_zero]; rfl
        case hqr5_14 => exact fun _ _ _ h => h
        case hyr5_14 => exact Or.inr ⟨by rfl, rfl⟩
        try simp only [Act.put, List.setIfInBounds_toArray, List.set_cons_zero, List.set_cons_succ]
        refine wpAnyH_take (i := 15) (oi := ?oir5_15) (v := undef) ?hir5_15 (by kernel_rfl) (by kernel_rfl) (by kernel_rfl) ?hqr5_15 ?hyr5_15 (by assumption) ?restr5_15
        case hir5_15 => simp only [List.getElem?_toArray, List.getElem?_cons_succ, List.getElem?_cons_zero]; rfl
        case hqr5_15 => exact fun _ _ _ h => h
        case hyr5_15 => exact Or.inr ⟨by rfl, rfl⟩
        try simp only [Act.put, List.setIfInBounds_toArray, List.set_cons_zero, List.set_cons_succ]
        refine wpAnyH_take (i := 16) (oi := ?oir5_16) (v := ?vr5_16) ?hir5_16 (by kernel_rfl) (by kernel_rfl) (by kernel_rfl) ?hqr5_16 ?hyr5_16 (by assumption) ?restr5_16
        case hir5_16 => simp only [List.getElem?_toArray, List.getElem?_cons_succ, List.getElem?_cons_zero]; rfl
        case hqr5_16 => exact fun _ _ _ h => h
        case hyr5_16 => (refine Or.inl ⟨by rfl, ?_⟩; intro w hSw; (try dsimp only at hSw); go_simp; all_goals with_reducible rfl)
        try simp only [Act.put, List.setIfInBounds_toArray, List.set_cons_zero, List.set_cons_succ]
        refine wpAnyH_take (i := 17) (oi := ?oir5_17) (v := ?vr5_17) ?hir5_17 (by kernel_rfl) (by kernel_rfl) (by kernel_rfl) ?hqr5_17 ?hyr5_17 (by assumption) ?restr5_17
        case hir5_17 => simp only [List.getElem?_toArray, List.getElem?_cons_succ, List.getElem?_cons_zero]; rfl
        case hqr5_17 => exact fun _ _ _ h => h
        case hyr5_17 => (refine Or.inl ⟨by rfl, ?_⟩; intro w hSw; (try dsimp only at hSw); go_simp; all_goals with_reducible rfl)
        try simp only [Act.put, List.setIfInBounds_toArray, List.set_cons_zero, List.set_cons_succ]
        refine wpAnyH_take (i := 18) (oi := ?oir5_18) (v := undef) ?hir5_18 (by kernel_rfl) (by kernel_rfl) (by kernel_rfl) ?hqr5_18 ?hyr5_18 (by assumption) ?restr5_18
        case hir5_18 => simp only [List.getElem?_toArray, List.getElem?_cons_succ, List.getElem?_cons_zero]; rfl
        case hqr5_18 => exact fun _ _ _ h => h
        case hyr5_18 => exact Or.inr ⟨by rfl, rfl⟩
        try simp only [Act.put, List.setIfInBounds_toArray, List.set_cons_zero, List.set_cons_succ]
        refine wpAnyH_take (i := 19) (oi := ?oir5_19) (v := undef) ?hir5_19 (by kernel_rfl) (by kernel_rfl) (by kernel_rfl) ?hqr5_19 ?hyr5_19 (by assumption) ?restr5_19
        case hir5_19 => simp only [List.getElem?_toArray, List.getElem?_cons_succ, List.getElem?_cons_zero]; rfl
        case hqr5_19 => exact fun _ _ _ h => h
        case hyr5_19 => exact Or.inr ⟨by rfl, rfl⟩
        try simp only [Act.put, List.setIfInBounds_toArray, List.set_cons_zero, List.set_cons_succ]
        refine wpAnyH_take (i := 20) (oi := ?oir5_20) (v := undef) ?hir5_20 (by kernel_rfl) (by kernel_rfl) (by kernel_rfl) ?hqr5_20 ?hyr5_20 (by assumption) ?restr5_20
        case hir5_20 => simp only [List.getElem?_toArray, List.getElem?_cons_succ, List.getElem?_cons_zero]; rfl
        case hqr5_20 => exact fun _ _ _ h => h
        case hyr5_20 => exact Or.inr ⟨by rfl, rfl⟩
        try simp only [Act.put, List.setIfInBounds_toArray, List.set_cons_zero, List.set_cons_succ]
        refine wpAnyH_take (i := 21) (oi := ?oir5_21) (v := undef) ?hir5_21 (by kernel_rfl) (by kernel_rfl) (by kernel_rfl) ?hqr5_21 ?hyr5_21 (by assumption) ?restr5_21
        case hir5_21 => simp only [List.getElem?_toArray, List.getElem?_cons_succ, List.getElem?_cons_zero]; rfl
        case hqr5_21 => exact fun _ _ _ h => h
        case hyr5_21 => exact Or.inr ⟨by rfl, rfl⟩
        try simp only [Act.put, List.setIfInBounds_toArray, List.set_cons_zero, List.set_cons_succ]
        refine wpAnyH_take (i := 22) (oi := ?oir5_22) (v := undef) ?hir5_22 (by kernel_rfl) (by kernel_rfl) (by kernel_rfl) ?hqr5_22 ?hyr5_22 (by assumption) ?restr5_22
        case hir5_22 => simp only [List.getElem?_toArray, List.getElem?_cons_succ, List.getElem?_cons_zero]; rfl
        case hqr5_22 => exact fun _ _ _ h => h
        case hyr5_22 => exact Or.inr ⟨by rfl, rfl⟩
        try simp only [Act.put, List.setIfInBounds_toArray, List.set_cons_zero, List.set_cons_succ]
        refine wpAnyH_take (i := 23) (oi := ?oir5_23) (v := ?vr5_23) ?hir5_23 (by kernel_rfl) (by kernel_rfl) (by kernel_rfl) ?hqr5_23 ?hyr5_23 (by assumption) ?restr5_23
        case hir5_23 => simp only [List.getElem?_toArray, List.getElem?_cons_succ, List.getElem?_cons_zero]; rfl
        case hqr5_23 => exact fun _ _ _ h => h
        case hyr5_23 => (refine Or.inl ⟨by rfl, ?_⟩; intro w hSw; (try dsimp only at hSw); go_simp; all_goals with_reducible rfl)
        try simp only [Act.put, List.setIfInBounds_toArray, List.set_cons_zero, List.set_cons_succ]
        refine wpAnyH_done (by kernel_rfl) ?_ _
        go_wp2_with fail
        go_ret
        exact ⟨by rw [e.out]; rfl, LD.below⟩
      cases c2 : leC [0, 0, 1] q.best
      case false =>
        have e := Lib.hid (show r = 8 by rw [HR.out]; exact chkC_no (fun h => by have := h.2.2.1; rw [c2] at this; simp at this))
        have E1 := Lib.hid c1
        have E2 := Lib.hid c2
        clear c1 c2
        go_upto_region 8 with fail
        have hb := (Below.refl W.heap.size W).drew
        have LD := LD.later hb
        have q1 := q1.below hb
        have q2 := q2.below hb
        clear hb
        refine wp_region_held_drew (S := (fun w' => w'.cell? ⟨w.heap.size, 8, none⟩ = some (.slice a n c) ∧ w'.cell? ⟨w.heap.size, 9, none⟩ = some (.slice b m d))) (by kernel_rfl) ?_ (fun hHeld => ?_)
        · exact ⟨LD.cell 8 _ rfl, LD.cell 9 _ rfl⟩
        generalize W.drew = WD at *
        refine wpAnyH_take (i := 0) (oi := ?oir6_0) (v := ?vr6_0) ?hir6_0 (by kernel_rfl) (by kernel_rfl) (by kernel_rfl) ?hqr6_0 ?hyr6_0 (by assumption) ?restr6_0
        case hir6_0 => simp only [List.getElem?_toArray, List.getElem?_cons_succ, List.getElem?_cons_zero]; rfl
        case hqr6_0 => exact fun _ _ _ h => h
        case hyr6_0 => (refine Or.inl ⟨by rfl, ?_⟩; intro w hSw; (try dsimp only at hSw); go_simp; all_goals with_reducible rfl)
        try simp only [Act.put, List.setIfInBounds_toArray, List.set_cons_zero, List.set_cons_succ]
        refine wpAnyH_take (i := 1) (oi := ?oir6_1) (v := ?vr6_1) ?hir6_1 (by kernel_rfl) (by kernel_rfl) (by kernel_rfl) ?hqr6_1 ?hyr6_1 (by assumption) ?restr6_1
        case hir6_1 => simp only [List.getElem?_toArray, List.getElem?_cons_succ, List.getElem?_cons_zero]; rfl
        case hqr6_1 => exact fun _ _ _ h => h
        case hyr6_1 => (refine Or.inl ⟨by rfl, ?_⟩; intro w hSw; (try dsimp only at hSw); go_simp; all_goals with_reducible rfl)
        try simp only [Act.put, List.setIfInBounds_toArray, List.set_cons_zero, List.set_cons_succ]
        refine wpAnyH_take (i := 2) (oi := ?oir6_2) (v := ?vr6_2) ?hir6_2 (by kernel_rfl) (by kernel_rfl) (by kernel_rfl) ?hqr6_2 ?hyr6_2 (by assumption) ?restr6_2
        case hir6_2 => simp only [List.getElem?_toArray, List.getElem?_cons_succ, List.getElem?_cons_zero]; rfl
        case hqr6_2 => exact fun _ _ _ h => h
        case hyr6_2 => (refine Or.inl ⟨by rfl, ?_⟩; intro w hSw; (try dsimp only at hSw); go_simp; all_goals with_reducible rfl)
        try simp only [Act.put, List.setIfInBounds_toArray, List.set_cons_zero, List.set_cons_succ]
        refine wpAnyH_take (i := 3) (oi := ?oir6_3) (v := ?vr6_3) ?hir6_3 (by kernel_rfl) (by kernel_rfl) (by kernel_rfl) ?hqr6_3 ?hyr6_3 (by assumption) ?restr6_3
        case hir6_3 => simp only [List.getElem?_toArray, List.getElem?_cons_succ, List.getElem?_cons_zero]; rfl
        case hqr6_3 => exact fun _ _ _ h => h
        case hyr6_3 => (refine Or.inl ⟨by rfl, ?_⟩; intro w hSw; (try dsimp only at hSw); go_simp; all_goals with_reducible rfl)
        try simp only [Act.put, List.setIfInBounds_toArray, List.set_cons_zero, List.set_cons_succ]
        refine wpAnyH_take (i := 4) (oi := ?oir6_4) (v := ?vr6_4) ?hir6_4 (by kernel_rfl) (by kernel_rfl) (by kernel_rfl) ?hqr6_4 ?hyr6_4 (by assumption) ?restr6_4
        case hir6_4 => simp only [List.getElem?_toArray, List.getElem?_cons_succ, List.getElem?_cons_zero]; rfl
        case hqr6_4 => exact fun _ _ _ h => h
        case hyr6_4 => (refine Or.inl ⟨by rfl, ?_⟩; intro w hSw; (try dsimp only at hSw); go_simp; all_goals with_reducible rfl)
        try simp only [Act.put, List.setIfInBounds_toArray, List.set_cons_zero, List.set_cons_succ]
        refine wpAnyH_take (i := 5) (oi := ?oir6_5) (v := ?vr6_5) ?hir6_5 (by kernel_rfl) (by kernel_rfl) (by kernel_rfl) ?hqr6_5 ?hyr6_5 (by assumption) ?restr6_5
        case hir6_5 => simp only [List.getElem?_toArray, List.getElem?_cons_succ, List.getElem?_cons_zero]; rfl
        case hqr6_5 => exact fun _ _ _ h => h
        case hyr6_5 => (refine Or.inl ⟨by rfl, ?_⟩; intro w hSw; (try dsimp only at hSw); go_simp; all_goals with_reducible rfl)
        try simp only [Act.put, List.setIfInBounds_toArray, List.set_cons_zero, List.set_cons_succ]
        refine wpAnyH_take (i := 6) (oi := ?oir6_6) (v := ?vr6_6) ?hir6_6 (by kernel_rfl) (by kernel_rfl) (by kernel_rfl) ?hqr6_6 ?hyr6_6 (by assumption) ?restr6_6
        case hir6_6 => simp only [List.getElem?_toArray, List.getElem?_cons_succ, List.getElem?_cons_zero]; rfl
        case hqr6_6 => exact fun _ _ _ h => h
        case hyr6_6 => (refine Or.inl ⟨by rfl, ?_⟩; intro w hSw; (try dsimp only at hSw); go_simp; all_goals with_reducible rfl)
        try simp only [Act.put, List.setIfInBounds_toArray, List.set_cons_zero, List.set_cons_succ]
        refine wpAnyH_ready (rs := [7]) (by kernel_rfl) (by simp) ?_
        refine AllReadyH.cons (o := ?or7_7) ?hor7_7 (fun K hK => ?kr7_7) AllReadyH.nil
        case hor7_7 => simp only [List.getElem?_toArray, List.getElem?_cons_succ, List.getElem?_cons_zero]; rfl
        go_simp
        have cc := cmAtMost_any _ q1 q2
        rw [E1.out] at cc
        refine cc.mono ?_
        rintro e2 wq ⟨rfl, hb⟩
        clear cc
        have LD := LD.later hb
        have q1 := q1.below hb
        have q2 := q2.below hb
        clear hb
        go_wp2_with fail
        refine hK.out _ _ ?_ (fun hHeld => ?_)
        · exact ⟨LD.cell 8 _ rfl, LD.cell 9 _ rfl⟩
        clear hK K
        try simp only [Act.put, List.setIfInBounds_toArray, List.set_cons_zero, List.set_cons_succ]
        refine wpAnyH_take (i := 8) (oi := ?oir8_8) (v := ?vr8_8) ?hir8_8 (by kernel_rfl) (by kernel_rfl) (by kernel_rfl) ?hqr8_8 ?hyr8_8 (by assumption) ?restr8_8
        case hir8_8 => simp only [List.getElem?_toArray, List.getElem?_cons_succ, List.getElem?_cons_zero]; rfl
        case hqr8_8 => exact fun _ _ _ h => h
        case hyr8_8 => (refine Or.inl ⟨by rfl, ?_⟩; intro w hSw; (try dsimp only at hSw); go_simp; all_goals with_reducible rfl)
        try simp only [Act.put, List.setIfInBounds_toArray, List.set_cons_zero, List.set_cons_succ]
        refine wpAnyH_take (i := 9) (oi := ?oir8_9) (v := ?vr8_9) ?hir8_9 (by kernel_rfl) (by kernel_rfl) (by kernel_rfl) ?hqr8_9 ?hyr8_9 (by assumption) ?restr8_9
        case hir8_9 => simp only [List.getElem?_toArray, List.getElem?_cons_succ, List.getElem?_cons_zero]; rfl
        case hqr8_9 => exact fun _ _ _ h => h
        case hyr8_9 => (refine Or.inl ⟨by rfl, ?_⟩; intro w hSw; (try dsimp only at hSw); go_simp; all_goals with_reducible rfl)
        try simp only [Act.put, List.setIfInBounds_toArray, List.set_cons_zero, List.set_cons_succ]
        refine wpAnyH_take (i := 10) (oi := ?oir8_10) (v := ?vr8_10) ?hir8_10 (by kernel_rfl) (by kernel_rfl) (by kernel_rfl) ?hqr8_10 ?hyr8_10 (by assumption) ?restr8_10
        case hir8_10 => simp only [List.getElem?_toArray, List.getElem?_cons_succ, List.getElem?_cons_zero]; rfl
        case hqr8_10 => exact fun _ _ _ h => h
        case hyr8_10 => (refine Or.inl ⟨by rfl, ?_⟩; intro w hSw; (try dsimp only at hSw); go_simp; all_goals with_reducible rfl)
        try simp only [Act.put, List.setIfInBounds_toArray, List.set_cons_zero, List.set_cons_succ]
        refine wpAnyH_take (i := 12) (oi := ?oir9_12) (v := ?vr9_12) ?hir9_12 (by kernel_rfl) (by kernel_rfl) (by kernel_rfl) ?hqr9_12 ?hyr9_12 (by assumption) ?restr9_12
        case hir9_12 => simp only [List.getElem?_toArray, List.getElem?_cons_succ, List.getElem?_cons_zero]; rfl
        case hqr9_12 => exact fun _ _ _ h => h
        case hyr9_12 => (refine Or.inl ⟨by rfl, ?_⟩; intro w hSw; (try dsimp only at hSw); go_simp; all_goals with_reducible rfl)
        try simp only [Act.put, List.setIfInBounds_toArray, List.set_cons_zero, List.set_cons_succ]
        refine wpAnyH_take (i := 13) (oi := ?oir9_13) (v := ?vr9_13) ?hir9_13 (by kernel_rfl) (by kernel_rfl) (by kernel_rfl) ?hqr9_13 ?hyr9_13 (by assumption) ?restr9_13
        case hir9_13 => simp only [List.getElem?_toArray, List.getElem?_cons_succ, List.getElem?_cons_zero]; rfl
        case hqr9_13 => exact fun _ _ _ h => h
        case hyr9_13 => (refine Or.inl ⟨by rfl, ?_⟩; intro w hSw; (try dsimp only at hSw); go_simp; all_goals with_reducible rfl)
        try simp only [Act.put, List.setIfInBounds_toArray, List.set_cons_zero, List.set_cons_succ]
        refine wpAnyH_ready (rs := [11]) (by kernel_rfl) (by simp) ?_
        refine AllReadyH.cons (o := ?or10_11) ?hor10_11 (fun K hK => ?kr10_11) AllReadyH.nil
        case hor10_11 => simp only [List.getElem?_toArray, List.getElem?_cons_succ, List.getElem?_cons_zero]; rfl
        go_simp
        refine (cmOne_any _).mono ?_
        rintro e2 wq ⟨a9, n9, c9, rfl, x9, hb⟩
        have LD := LD.later hb
        have q1 := q1.below hb
        have q2 := q2.below hb
        clear hb
        go_wp2_with fail
        refine hK.out _ _ ?_ (fun hHeld => ?_)
        · exact ⟨LD.cell 8 _ rfl, LD.cell 9 _ rfl⟩
        clear hK K
        try simp only [Act.put, List.setIfInBounds_toArray, List.set_cons_zero, List.set_cons_succ]
        refine wpAnyH_ready (rs := [14]) (by kernel_rfl) (by simp) ?_
        refine AllReadyH.cons (o := ?or11_14) ?hor11_14 (fun K hK => ?kr11_14) AllReadyH.nil
        case hor11_14 => simp only [List.getElem?_toArray, List.getElem?_cons_succ, List.getElem?_cons_zero]; rfl
        go_simp
        have cc := cmAtMost_any _ x9 q2
        rw [E2.out] at cc
        refine cc.mono ?_
        rintro e2 wq ⟨rfl, hb⟩
        clear cc
        have LD := LD.later hb
        have q1 := q1.below hb
        have q2 := q2.below hb
        clear x9
        clear hb
        go_wp2_with fail
        refine hK.out _ _ ?_ (fun hHeld => ?_)
        · exact ⟨LD.cell 8 _ rfl, LD.cell 9 _ rfl⟩
        clear hK K
        try simp only [Act.put, List.setIfInBounds_toArray, List.set_cons_zero, List.set_cons_succ]
        refine wpAnyH_take (i := 15) (oi := ?oir12_15) (v := ?vr12_15) ?hir12_15 (by kernel_rfl) (by kernel_rfl) (by kernel_rfl) ?hqr12_15 ?hyr12_15 (by assumption) ?restr12_15
        case hir12_15 => simp only [List.getElem?_toArray, List.getElem?_cons_succ, List.getElem?_cons_zero]; rfl
        case hqr12_15 => exact fun _ _ _ h => h
        case hyr12_15 => (refine Or.inl ⟨by rfl, ?_⟩; intro w hSw; (try dsimp only at hSw); go_simp; all_goals with_reducible rfl)
        try simp only [Act.put, List.setIfInBounds_toArray, List.set_cons_zero, List.set_cons_succ]
        refine wpAnyH_take (i := 16) (oi := ?oir12_16) (v := ?vr12_16) ?hir12_16 (by kernel_rfl) (by kernel_rfl) (by kernel_rfl) ?hqr12_16 ?hyr12_16 (by assumption) ?restr12_16
        case hir12_16 => simp only [List.getElem?_toArray, List.getElem?_cons_succ, List.getElem?_cons_zero]; rfl
        case hqr12_16 => exact fun _ _ _ h => h
        case hyr12_16 => (refine Or.inl ⟨by rfl, ?_⟩; intro w hSw; (try dsimp only at hSw); go_simp; all_goals with_reducible rfl)
        try simp only [Act.put, List.setIfInBounds_toArray, List.set_cons_zero, List.set_cons_succ]
        refine wpAnyH_take (i := 17) (oi := ?oir12_17) (v := ?vr12_17) ?hir12_17 (by kernel_rfl) (by kernel_rfl) (by kernel_rfl) ?hqr12_17 ?hyr12_17 (by assumption) ?restr12_17
        case hir12_17 => simp only [List.getElem?_toArray, List.getElem?_cons_succ, List.getElem?_cons_zero]; rfl
        case hqr12_17 => exact fun _ _ _ h => h
        case hyr12_17 => (refine Or.inl ⟨by rfl, ?_⟩; intro w hSw; (try dsimp only at hSw); go_simp; all_goals with_reducible rfl)
        try simp only [Act.put, List.setIfInBounds_toArray, List.set_cons_zero, List.set_cons_succ]
        refine wpAnyH_take (i := 18) (oi := ?oir13_18) (v := undef) ?hir13_18 (by kernel_rfl) (by kernel_rfl) (by kernel_rfl) ?hqr13_18 ?hyr13_18 (by assumption) ?restr13_18
        case hir13_18 => simp only [List.getElem?_toArray, List.getElem?_cons_succ, List.getElem?_cons_zero]; rfl
        case hqr13_18 => exact fun _ _ _ h => h
        case hyr13_18 => exact Or.inr ⟨by rfl, rfl⟩
        try simp only [Act.put, List.setIfInBounds_toArray, List.set_cons_zero, List.set_cons_succ]
        refine wpAnyH_take (i := 19) (oi := ?oir13_19) (v := undef) ?hir13_19 (by kernel_rfl) (by kernel_rfl) (by kernel_rfl) ?hqr13_19 ?hyr13_19 (by assumption) ?restr13_19
        case hir13_19 => simp only [List.getElem?_toArray, List.getElem?_cons_succ, List.getElem?_cons_zero]; rfl
        case hqr13_19 => exact fun _ _ _ h => h
        case hyr13_19 => exact Or.inr ⟨by rfl, rfl⟩
        try simp only [Act.put, List.setIfInBounds_toArray, List.set_cons_zero, List.set_cons_succ]
        refine wpAnyH_take (i := 20) (oi := ?oir13_20) (v := undef) ?hir13_20 (by kernel_rfl) (by kernel_rfl) (by kernel_rfl) ?hqr13_20 ?hyr13_20 (by assumption) ?restr13_20
        case hir13_20 => simp only [List.getElem?_toArray, List.getElem?_cons_succ, List.getElem?_cons_zero]; rfl
        case hqr13_20 => exact fun _ _ _ h => h
        case hyr13_20 => exact Or.inr ⟨by rfl, rfl⟩
        try simp only [Act.put, List.setIfInBounds_toArray, List.set_cons_zero, List.set_cons_succ]
        refine wpAnyH_take (i := 21) (oi := ?oir13_21) (v := undef) ?hir13_21 (by kernel_rfl) (by kernel_rfl) (by kernel_rfl) ?hqr13_21 ?hyr13_21 (by assumption) ?restr13_21
        case hir13_21 => simp only [List.getElem?_toArray, List.getElem?_cons_succ, List.getElem?_cons_zero]; rfl
        case hqr13_21 => exact fun _ _ _ h => h
        case hyr13_21 => exact Or.inr ⟨by rfl, rfl⟩
        try simp only [Act.put, List.setIfInBounds_toArray, List.set_cons_zero, List.set_cons_succ]
        refine wpAnyH_take (i := 22) (oi := ?oir13_22) (v := undef) ?hir13_22 (by kernel_rfl) (by kernel_rfl) (by kernel_rfl) ?hqr13_22 ?hyr13_22 (by assumption) ?restr13_22
        case hir13_22 => simp only [List.getElem?_toArray, List.getElem?_cons_succ, List.getElem?_cons_zero]; rfl
        case hqr13_22 => exact fun _ _ _ h => h
        case hyr13_22 => exact Or.inr ⟨by rfl, rfl⟩
        try simp only [Act.put, List.setIfInBounds_toArray, List.set_cons_zero, List.set_cons_succ]
        refine wpAnyH_take (i := 23) (oi := ?oir13_23) (v := ?vr13_23) ?hir13_23 (by kernel_rfl) (by kernel_rfl) (by kernel_rfl) ?hqr13_23 ?hyr13_23 (by assumption) ?restr13_23
        case hir13_23 => simp only [List.getElem?_toArray, List.getElem?_cons_succ, List.getElem?_cons_zero]; rfl
        case hqr13_23 => exact fun _ _ _ h => h
        case hyr13_23 => (refine Or.inl ⟨by rfl, ?_⟩; intro w hSw; (try dsimp only at hSw); go_simp; all_goals with_reducible rfl)
        try simp only [Act.put, List.setIfInBounds_toArray, List.set_cons_zero, List.set_cons_succ]
        refine wpAnyH_done (by kernel_rfl) ?_ _
        go_wp2_with fail
        go_ret
        exact ⟨by rw [e.out]; rfl, LD.below⟩
      cases c3 : leC q.best [0, 0, 0, 0, 1]
      case false =>
        have e := Lib.hid (show r = 8 by rw [HR.out]; exact chkC_no (fun h => by have := h.2.2.2; rw [c3] at this; simp at this))
        have E1 := Lib.hid c1
        have E2 := Lib.hid c2
        have E3 := Lib.hid c3
        clear c1 c2 c3
        go_upto_region 8 with fail
        have hb := (Below.refl W.heap.size W).drew
        have LD := LD.later hb
        have q1 := q1.below hb
        have q2 := q2.below hb
        clear hb
        refine wp_region_held_drew (S := (fun w' => w'.cell? ⟨w.heap.size, 8, none⟩ = some (.slice a n c) ∧ w'.cell? ⟨w.heap.size, 9, none⟩ = some (.slice b m d))) (by kernel_rfl) ?_ (fun hHeld => ?_)
        · exact ⟨LD.cell 8 _ rfl, LD.cell 9 _ rfl⟩
        generalize W.drew = WD at *
        refine wpAnyH_take (i := 0) (oi := ?oir14_0) (v := ?vr14_0) ?hir14_0 (by kernel_rfl) (by kernel_rfl) (by kernel_rfl) ?hqr14_0 ?hyr14_0 (by assumption) ?restr14_0
        case hir14_0 => simp only [List.getElem?_toArray, List.getElem?_cons_succ, List.getElem?_cons_zero]; rfl
        case hqr14_0 => exact fun _ _ _ h => h
        case hyr14_0 => (refine Or.inl ⟨by rfl, ?_⟩; intro w hSw; (try dsimp only at hSw); go_simp; all_goals with_reducible rfl)
        try simp only [Act.put, List.setIfInBounds_toArray, List.set_cons_zero, List.set_cons_succ]
        refine wpAnyH_take (i := 1) (oi := ?oir14_1) (v := ?vr14_1) ?hir14_1 (by kernel_rfl) (by kernel_rfl) (by kernel_rfl) ?hqr14_1 ?hyr14_1 (by assumption) ?restr14_1
        case hir14_1 => simp only [List.getElem?_toArray, List.getElem?_cons_succ, List.getElem?_cons_zero]; rfl
        case hqr14_1 => exact fun _ _ _ h => h
        case hyr14_1 => (refine Or.inl ⟨by rfl, ?_⟩; intro w hSw; (try dsimp only at hSw); go_simp; all_goals with_reducible rfl)
        try simp only [Act.put, List.setIfInBounds_toArray, List.set_cons_zero, List.set_cons_succ]
        refine wpAnyH_take (i := 2) (oi := ?oir14_2) (v := ?vr14_2) ?hir14_2 (by kernel_rfl) (by kernel_rfl) (by kernel_rfl) ?hqr14_2 ?hyr14_2 (by assumption) ?restr14_2
        case hir14_2 => simp only [List.getElem?_toArray, List.getElem?_cons_succ, List.getElem?_cons_zero]; rfl
        case hqr14_2 => exact fun _ _ _ h => h
        case hyr14_2 => (refine Or.inl ⟨by rfl, ?_⟩; intro w hSw; (try dsimp only at hSw); go_simp; all_goals with_reducible rfl)
        try simp only [Act.put, List.setIfInBounds_toArray, List.set_cons_zero, List.set_cons_succ]
        refine wpAnyH_take (i := 3) (oi := ?oir14_3) (v := ?vr14_3) ?hir14_3 (by kernel_rfl) (by kernel_rfl) (by kernel_rfl) ?hqr14_3 ?hyr14_3 (by assumption) ?restr14_3
        case hir14_3 => simp only [List.getElem?_toArray, List.getElem?_cons_succ, List.getElem?_cons_zero]; rfl
        case hqr14_3 => exact fun _ _ _ h => h
        case hyr14_3 => (refine Or.inl ⟨by rfl, ?_⟩; intro w hSw; (try dsimp only at hSw); go_simp; all_goals with_reducible rfl)
        try simp only [Act.put, List.setIfInBounds_toArray, List.set_cons_zero, List.set_cons_succ]
        refine wpAnyH_take (i := 4) (oi := ?oir14_4) (v := ?vr14_4) ?hir14_4 (by kernel_rfl) (by kernel_rfl) (by kernel_rfl) ?hqr14_4 ?hyr14_4 (by assumption) ?restr14_4
        case hir14_4 => simp only [List.getElem?_toArray, List.getElem?_cons_succ, List.getElem?_cons_zero]; rfl
        case hqr14_4 => exact fun _ _ _ h => h
        case hyr14_4 => (refine Or.inl ⟨by rfl, ?_⟩; intro w hSw; (try dsimp only at hSw); go_simp; all_goals with_reducible rfl)
        try simp only [Act.put, List.setIfInBounds_toArray, List.set_cons_zero, List.set_cons_succ]
        refine wpAnyH_take (i := 5) (oi := ?oir14_5) (v := ?vr14_5) ?hir14_5 (by kernel_rfl) (by kernel_rfl) (by kernel_rfl) ?hqr14_5 ?hyr14_5 (by assumption) ?restr14_5
        case hir14_5 => simp only [List.getElem?_toArray, List.getElem?_cons_succ, List.getElem?_cons_zero]; rfl
        case hqr14_5 => exact fun _ _ _ h => h
        case hyr14_5 => (refine Or.inl ⟨by rfl, ?_⟩; intro w hSw; (try dsimp only at hSw); go_simp; all_goals with_reducible rfl)
        try simp only [Act.put, List.setIfInBounds_toArray, List.set_cons_zero, List.set_cons_succ]
        refine wpAnyH_take (i := 6) (oi := ?oir14_6) (v := ?vr14_6) ?hir14_6 (by kernel_rfl) (by kernel_rfl) (by kernel_rfl) ?hqr14_6 ?hyr14_6 (by assumption) ?restr14_6
        case hir14_6 => simp only [List.getElem?_toArray, List.getElem?_cons_succ, List.getElem?_cons_zero]; rfl
        case hqr14_6 => exact fun _ _ _ h => h
        case hyr14_6 => (refine Or.inl ⟨by rfl, ?_⟩; intro w hSw; (try dsimp only at hSw); go_simp; all_goals with_reducible rfl)
        try simp only [Act.put, List.setIfInBounds_toArray, List.set_cons_zero, List.set_cons_succ]
        refine wpAnyH_ready (rs := [7]) (by kernel_rfl) (by simp) ?_
        refine AllReadyH.cons (o := ?or15_7) ?hor15_7 (fun K hK => ?kr15_7) AllReadyH.nil
        case hor15_7 => simp only [List.getElem?_toArray, List.getElem?_cons_succ, List.getElem?_cons_zero]; rfl
        go_simp
        have cc := cmAtMost_any _ q1 q2
        rw [E1.out] at cc
        refine cc.mono ?_
        rintro e2 wq ⟨rfl, hb⟩
        clear cc
        have LD := LD.later hb
        have q1 := q1.below hb
        have q2 := q2.below hb
        clear hb
        go_wp2_with fail
        refine hK.out _ _ ?_ (fun hHeld => ?_)
        · exact ⟨LD.cell 8 _ rfl, LD.cell 9 _ rfl⟩
        clear hK K
        try simp only [Act.put, List.setIfInBounds_toArray, List.set_cons_zero, List.set_cons_succ]
        refine wpAnyH_take (i := 8) (oi := ?oir16_8) (v := ?vr16_8) ?hir16_8 (by kernel_rfl) (by kernel_rfl) (by kernel_rfl) ?hqr16_8 ?hyr16_8 (by assumption) ?restr16_8
        case hir16_8 => simp only [List.getElem?_toArray, List.getElem?_cons_succ, List.getElem?_cons_zero]; rfl
        case hqr16_8 => exact fun _ _ _ h => h
        case hyr16_8 => (refine Or.inl ⟨by rfl, ?_⟩; intro w hSw; (try dsimp only at hSw); go_simp; all_goals with_reducible rfl)
        try simp only [Act.put, List.setIfInBounds_toArray, List.set_cons_zero, List.set_cons_succ]
        refine wpAnyH_take (i := 9) (oi := ?oir16_9) (v := ?vr16_9) ?hir16_9 (by kernel_rfl) (by kernel_rfl) (by kernel_rfl) ?hqr16_9 ?hyr16_9 (by assumption) ?restr16_9
        case hir16_9 => simp only [List.getElem?_toArray, List.getElem?_cons_succ, List.getElem?_cons_zero]; rfl
        case hqr16_9 => exact fun _ _ _ h => h
        case hyr16_9 => (refine Or.inl ⟨by rfl, ?_⟩; intro w hSw; (try dsimp only at hSw); go_simp; all_goals with_reducible rfl)
        try simp only [Act.put, List.setIfInBounds_toArray, List.set_cons_zero, List.set_cons_succ]
        refine wpAnyH_take (i := 10) (oi := ?oir16_10) (v := ?vr16_10) ?hir16_10 (by kernel_rfl) (by kernel_rfl) (by kernel_rfl) ?hqr16_10 ?hyr16_10 (by assumption) ?restr16_10
        case hir16_10 => simp only [List.getElem?_toArray, List.getElem?_cons_succ, List.getElem?_cons_zero]; rfl
        case hqr16_10 => exact fun _ _ _ h => h
        case hyr16_10 => (refine Or.inl ⟨by rfl, ?_⟩; intro w hSw; (try dsimp only at hSw); go_simp; all_goals with_reducible rfl)
        try simp only [Act.put, List.setIfInBounds_toArray, List.set_cons_zero, List.set_cons_succ]
        refine wpAnyH_take (i := 12) (oi := ?oir17_12) (v := ?vr17_12) ?hir17_12 (by kernel_rfl) (by kernel_rfl) (by kernel_rfl) ?hqr17_12 ?hyr17_12 (by assumption) ?restr17_12
        case hir17_12 => simp only [List.getElem?_toArray, List.getElem?_cons_succ, List.getElem?_cons_zero]; rfl
        case hqr17_12 => exact fun _ _ _ h => h
        case hyr17_12 => (refine Or.inl ⟨by rfl, ?_⟩; intro w hSw; (try dsimp only at hSw); go_simp; all_goals with_reducible rfl)
        try simp only [Act.put, List.setIfInBounds_toArray, List.set_cons_zero, List.set_cons_succ]
        refine wpAnyH_take (i := 13) (oi := ?oir17_13) (v := ?vr17_13) ?hir17_13 (by kernel_rfl) (by kernel_rfl) (by kernel_rfl) ?hqr17_13 ?hyr17_13 (by assumption) ?restr17_13
        case hir17_13 => simp only [List.getElem?_toArray, List.getElem?_cons_succ, List.getElem?_cons_zero]; rfl
        case hqr17_13 => exact fun _ _ _ h => h
        case hyr17_13 => (refine Or.inl ⟨by rfl, ?_⟩; intro w hSw; (try dsimp only at hSw); go_simp; all_goals with_reducible rfl)
        try simp only [Act.put, List.setIfInBounds_toArray, List.set_cons_zero, List.set_cons_succ]
        refine wpAnyH_ready (rs := [11]) (by kernel_rfl) (by simp) ?_
        refine AllReadyH.cons (o := ?or18_11) ?hor18_11 (fun K hK => ?kr18_11) AllReadyH.nil
        case hor18_11 => simp only [List.getElem?_toArray, List.getElem?_cons_succ, List.getElem?_cons_zero]; rfl
        go_simp
        refine (cmOne_any _).mono ?_
        rintro e2 wq ⟨a9, n9, c9, rfl, x9, hb⟩
        have LD := LD.later hb
        have q1 := q1.below hb
        have q2 := q2.below hb
        clear hb
        go_wp2_with fail
        refine hK.out _ _ ?_ (fun hHeld => ?_)
        · exact ⟨LD.cell 8 _ rfl, LD.cell 9 _ rfl⟩
        clear hK K
        try simp only [Act.put, List.setIfInBounds_toArray, List.set_cons_zero, List.set_cons_succ]
        refine wpAnyH_ready (rs := [14]) (by kernel_rfl) (by simp) ?_
        refine AllReadyH.cons (o := ?or19_14) ?hor19_14 (fun K hK => ?kr19_14) AllReadyH.nil
        case hor19_14 => simp only [List.getElem?_toArray, List.getElem?_cons_succ, List.getElem?_cons_zero]; rfl
        go_simp
        have cc := cmAtMost_any _ x9 q2
        rw [E2.out] at cc
        refine cc.mono ?_
        rintro e2 wq ⟨rfl, hb⟩
        clear cc
        have LD := LD.later hb
        have q1 := q1.below hb
        have q2 := q2.below hb
        clear x9
        clear hb
        go_wp2_with fail
        refine hK.out _ _ ?_ (fun hHeld => ?_)
        · exact ⟨LD.cell 8 _ rfl, LD.cell 9 _ rfl⟩
        clear hK K
        try simp only [Act.put, List.setIfInBounds_toArray, List.set_cons_zero, List.set_cons_succ]
        refine wpAnyH_take (i := 15) (oi := ?oir20_15) (v := ?vr20_15) ?hir20_15 (by kernel_rfl) (by kernel_rfl) (by kernel_rfl) ?hqr20_15 ?hyr20_15 (by assumption) ?restr20_15
        case hir20_15 => simp only [List.getElem?_toArray, List.getElem?_cons_succ, List.getElem?_cons_zero]; rfl
        case hqr20_15 => exact fun _ _ _ h => h
        case hyr20_15 => (refine Or.inl ⟨by rfl, ?_⟩; intro w hSw; (try dsimp only at hSw); go_simp; all_goals with_reducible rfl)
        try simp only [Act.put, List.setIfInBounds_toArray, List.set_cons_zero, List.set_cons_succ]
        refine wpAnyH_take (i := 16) (oi := ?oir20_16) (v := ?vr20_16) ?hir20_16 (by kernel_rfl) (by kernel_rfl) (by kernel_rfl) ?hqr20_16 ?hyr20_16 (by assumption) ?restr20_16
        case hir20_16 => simp only [List.getElem?_toArray, List.getElem?_cons_succ, List.getElem?_cons_zero]; rfl
        case hqr20_16 => exact fun _ _ _ h => h
        case hyr20_16 => (refine Or.inl ⟨by rfl, ?_⟩; intro w hSw; (try dsimp only at hSw); go_simp; all_goals with_reducible rfl)
        try simp only [Act.put, List.setIfInBounds_toArray, List.set_cons_zero, List.set_cons_succ]
        refine wpAnyH_take (i := 17) (oi := ?oir20_17) (v := ?vr20_17) ?hir20_17 (by kernel_rfl) (by kernel_rfl) (by kernel_rfl) ?hqr20_17 ?hyr20_17 (by assumption) ?restr20_17
        case hir20_17 => simp only [List.getElem?_toArray, List.getElem?_cons_succ, List.getElem?_cons_zero]; rfl
        case hqr20_17 => exact fun _ _ _ h => h
        case hyr20_17 => (refine Or.inl ⟨by rfl, ?_⟩; intro w hSw; (try dsimp only at hSw); go_simp; all_goals with_reducible rfl)
        try simp only [Act.put, List.setIfInBounds_toArray, List.set_cons_zero, List.set_cons_succ]
        refine wpAnyH_take (i := 18) (oi := ?oir21_18) (v := ?vr21_18) ?hir21_18 (by kernel_rfl) (by kernel_rfl) (by kernel_rfl) ?hqr21_18 ?hyr21_18 (by assumption) ?restr21_18
        case hir21_18 => simp only [List.getElem?_toArray, List.getElem?_cons_succ, List.getElem?_cons_zero]; rfl
        case hqr21_18 => exact fun _ _ _ h => h
        case hyr21_18 => (refine Or.inl ⟨by rfl, ?_⟩; intro w hSw; (try dsimp only at hSw); go_simp; all_goals with_reducible rfl)
        try simp only [Act.put, List.setIfInBounds_toArray, List.set_cons_zero, List.set_cons_succ]
        refine wpAnyH_take (i := 19) (oi := ?oir21_19) (v := ?vr21_19) ?hir21_19 (by kernel_rfl) (by kernel_rfl) (by kernel_rfl) ?hqr21_19 ?hyr21_19 (by assumption) ?restr21_19
        case hir21_19 => simp only [List.getElem?_toArray, List.getElem?_cons_succ, List.getElem?_cons_zero]; rfl
        case hqr21_19 => exact fun _ _ _ h => h
        case hyr21_19 => (refine Or.inl ⟨by rfl, ?_⟩; intro w hSw; (try dsimp only at hSw); go_simp; all_goals with_reducible rfl)
        try simp only [Act.put, List.setIfInBounds_toArray, List.set_cons_zero, List.set_cons_succ]
        refine wpAnyH_ready (rs := [20]) (by kernel_rfl) (by simp) ?_
        refine AllReadyH.cons (o := ?or22_20) ?hor22_20 (fun K hK => ?kr22_20) AllReadyH.nil
        case hor22_20 => simp only [List.getElem?_toArray, List.getElem?_cons_succ, List.getElem?_cons_zero]; rfl
        go_simp
        refine (cmMost_any _).mono ?_
        rintro e2 wq ⟨a9, n9, c9, rfl, x9, hb⟩
        have LD := LD.later hb
        have q1 := q1.below hb
        have q2 := q2.below hb
        clear hb
        go_wp2_with fail
        refine hK.out _ _ ?_ (fun hHeld => ?_)
        · exact ⟨LD.cell 8 _ rfl, LD.cell 9 _ rfl⟩
        clear hK K
        try simp only [Act.put, List.setIfInBounds_toArray, List.set_cons_zero, List.set_cons_succ]
        refine wpAnyH_ready (rs := [21]) (by kernel_rfl) (by simp) ?_
        refine AllReadyH.cons (o := ?or23_21) ?hor23_21 (fun K hK => ?kr23_21) AllReadyH.nil
        case hor23_21 => simp only [List.getElem?_toArray, List.getElem?_cons_succ, List.getElem?_cons_zero]; rfl
        go_simp
        have cc := cmAtMost_any _ q2 x9
        rw [E3.out] at cc
        refine cc.mono ?_
        rintro e2 wq ⟨rfl, hb⟩
        clear cc
        have LD := LD.later hb
        have q1 := q1.below hb
        have q2 := q2.below hb
        clear x9
        clear hb
        go_wp2_with fail
        refine hK.out _ _ ?_ (fun hHeld => ?_)
        · exact ⟨LD.cell 8 _ rfl, LD.cell 9 _ rfl⟩
        clear hK K
        try simp only [Act.put, List.setIfInBounds_toArray, List.set_cons_zero, List.set_cons_succ]
        refine wpAnyH_take (i := 22) (oi := ?oir24_22) (v := ?vr24_22) ?hir24_22 (by kernel_rfl) (by kernel_rfl) (by kernel_rfl) ?hqr24_22 ?hyr24_22 (by assumption) ?restr24_22
        case hir24_22 => simp only [List.getElem?_toArray, List.getElem?_cons_succ, List.getElem?_cons_zero]; rfl
        case hqr24_22 => exact fun _ _ _ h => h
        case hyr24_22 => (refine Or.inl ⟨by rfl, ?_⟩; intro w hSw; (try dsimp only at hSw); go_simp; all_goals with_reducible rfl)
        try simp only [Act.put, List.setIfInBounds_toArray, List.set_cons_zero, List.set_cons_succ]
        refine wpAnyH_take (i := 23) (oi := ?oir24_23) (v := ?vr24_23) ?hir24_23 (by kernel_rfl) (by kernel_rfl) (by kernel_rfl) ?hqr24_23 ?hyr24_23 (by assumption) ?restr24_23
        case hir24_23 => simp only [List.getElem?_toArray, List.getElem?_cons_succ, List.getElem?_cons_zero]; rfl
        case hqr24_23 => exact fun _ _ _ h => h
        case hyr24_23 => (refine Or.inl ⟨by rfl, ?_⟩; intro w hSw; (try dsimp only at hSw); go_simp; all_goals with_reducible rfl)
        try simp only [Act.put, List.setIfInBounds_toArray, List.set_cons_zero, List.set_cons_succ]
        refine wpAnyH_done (by kernel_rfl) ?_ _
        go_wp2_with fail
        go_ret
        exact ⟨by rw [e.out]; rfl, LD.below⟩
      have e := Lib.hid (show r = 0 by rw [HR.out]; exact chkC_yes ⟨HZ.out.symm, c1, c2, c3⟩)
      have E1 := Lib.hid c1
      have E2 := Lib.hid c2
      have E3 := Lib.hid c3
      clear c1 c2 c3
      go_upto_region 8 with fail
      have hb := (Below.refl W.heap.size W).drew
      have LD := LD.later hb
      have q1 := q1.below hb
      have q2 := q2.below hb
      clear hb
      refine wp_region_held_drew (S := (fun w' => w'.cell? ⟨w.heap.size, 8, none⟩ = some (.slice a n c) ∧ w'.cell? ⟨w.heap.size, 9, none⟩ = some (.slice b m d))) (by kernel_rfl) ?_ (fun hHeld => ?_)
      · exact ⟨LD.cell 8 _ rfl, LD.cell 9 _ rfl⟩
      generalize W.drew = WD at *
      refine wpAnyH_take (i := 0) (oi := ?oir25_0) (v := ?vr25_0) ?hir25_0 (by kernel_rfl) (by kernel_rfl) (by kernel_rfl) ?hqr25_0 ?hyr25_0 (by assumption) ?restr25_0
      case hir25_0 => simp only [List.getElem?_toArray, List.getElem?_cons_succ, List.getElem?_cons_zero]; rfl
      case hqr25_0 => exact fun _ _ _ h => h
      case hyr25_0 => (refine Or.inl ⟨by rfl, ?_⟩; intro w hSw; (try dsimp only at hSw); go_simp; all_goals with_reducible rfl)
      try simp only [Act.put, List.setIfInBounds_toArray, List.set_cons_zero, List.set_cons_succ]
      refine wpAnyH_take (i := 1) (oi := ?oir25_1) (v := ?vr25_1) ?hir25_1 (by kernel_rfl) (by kernel_rfl) (by kernel_rfl) ?hqr25_1 ?hyr25_1 (by assumption) ?restr25_1
      case hir25_1 => simp only [List.getElem?_toArray, List.getElem?_cons_succ, List.getElem?_cons_zero]; rfl
      case hqr25_1 => exact fun _ _ _ h => h
      case hyr25_1 => (refine Or.inl ⟨by rfl, ?_⟩; intro w hSw; (try dsimp only at hSw); go_simp; all_goals with_reducible rfl)
      try simp only [Act.put, List.setIfInBounds_toArray, List.set_cons_zero, List.set_cons_succ]
      refine wpAnyH_take (i := 2) (oi := ?oir25_2) (v := ?vr25_2) ?hir25_2 (by kernel_rfl) (by kernel_rfl) (by kernel_rfl) ?hqr25_2 ?hyr25_2 (by assumption) ?restr25_2
      case hir25_2 => simp only [List.getElem?_toArray, List.getElem?_cons_succ, List.getElem?_cons_zero]; rfl
      case hqr25_2 => exact fun _ _ _ h => h
      case hyr25_2 => (refine Or.inl ⟨by rfl, ?_⟩; intro w hSw; (try dsimp only at hSw); go_simp; all_goals with_reducible rfl)
      try simp only [Act.put, List.setIfInBounds_toArray, List.set_cons_zero, List.set_cons_succ]
      refine wpAnyH_take (i := 3) (oi := ?oir25_3) (v := ?vr25_3) ?hir25_3 (by kernel_rfl) (by kernel_rfl) (by kernel_rfl) ?hqr25_3 ?hyr25_3 (by assumption) ?restr25_3
      case hir25_3 => simp only [List.getElem?_toArray, List.getElem?_cons_succ, List.getElem?_cons_zero]; rfl
      case hqr25_3 => exact fun _ _ _ h => h
      case hyr25_3 => (refine Or.inl ⟨by rfl, ?_⟩; intro w hSw; (try dsimp only at hSw); go_simp; all_goals with_reducible rfl)
      try simp only [Act.put, List.setIfInBounds_toArray, List.set_cons_zero, List.set_cons_succ]
      refine wpAnyH_take (i := 4) (oi := ?oir25_4) (v := ?vr25_4) ?hir25_4 (by kernel_rfl) (by kernel_rfl) (by kernel_rfl) ?hqr25_4 ?hyr25_4 (by assumption) ?restr25_4
      case hir25_4 => simp only [List.getElem?_toArray, List.getElem?_cons_succ, List.getElem?_cons_zero]; rfl
      case hqr25_4 => exact fun _ _ _ h => h
      case hyr25_4 => (refine Or.inl ⟨by rfl, ?_⟩; intro w hSw; (try dsimp only at hSw); go_simp; all_goals with_reducible rfl)
      try simp only [Act.put, List.setIfInBounds_toArray, List.set_cons_zero, List.set_cons_succ]
      refine wpAnyH_take (i := 5) (oi := ?oir25_5) (v := ?vr25_5) ?hir25_5 (by kernel_rfl) (by kernel_rfl) (by kernel_rfl) ?hqr25_5 ?hyr25_5 (by assumption) ?restr25_5
      case hir25_5 => simp only [List.getElem?_toArray, List.getElem?_cons_succ, List.getElem?_cons_zero]; rfl
      case hqr25_5 => exact fun _ _ _ h => h
      case hyr25_5 => (refine Or.inl ⟨by rfl, ?_⟩; intro w hSw; (try dsimp only at hSw); go_simp; all_goals with_reducible rfl)
      try simp only [Act.put, List.setIfInBounds_toArray, List.set_cons_zero, List.set_cons_succ]
      refine wpAnyH_take (i := 6) (oi := ?oir25_6) (v := ?vr25_6) ?hir25_6 (by kernel_rfl) (by kernel_rfl) (by kernel_rfl) ?hqr25_6 ?hyr25_6 (by assumption) ?restr25_6
      case hir25_6 => simp only [List.getElem?_toArray, List.getElem?_cons_succ, List.getElem?_cons_zero]; rfl
      case hqr25_6 => exact fun _ _ _ h => h
      case hyr25_6 => (refine Or.inl ⟨by rfl, ?_⟩; intro w hSw; (try dsimp only at hSw); go_simp; all_goals with_reducible rfl)
      try simp only [Act.put, List.setIfInBounds_toArray, List.set_cons_zero, List.set_cons_succ]
      refine wpAnyH_ready (rs := [7]) (by kernel_rfl) (by simp) ?_
      refine AllReadyH.cons (o := ?or26_7) ?hor26_7 (fun K hK => ?kr26_7) AllReadyH.nil
      case hor26_7 => simp only [List.getElem?_toArray, List.getElem?_cons_succ, List.getElem?_cons_zero]; rfl
      go_simp
      have cc := cmAtMost_any _ q1 q2
      rw [E1.out] at cc
      refine cc.mono ?_
      rintro e2 wq ⟨rfl, hb⟩
      clear cc
      have LD := LD.later hb
      have q1 := q1.below hb
      have q2 := q2.below hb
      clear hb
      go_wp2_with fail
      refine hK.out _ _ ?_ (fun hHeld => ?_)
      · exact ⟨LD.cell 8 _ rfl, LD.cell 9 _ rfl⟩
      clear hK K
      try simp only [Act.put, List.setIfInBounds_toArray, List.set_cons_zero, List.set_cons_succ]
      refine wpAnyH_take (i := 8) (oi := ?oir27_8) (v := ?vr27_8) ?hir27_8 (by kernel_rfl) (by kernel_rfl) (by kernel_rfl) ?hqr27_8 ?hyr27_8 (by assumption) ?restr27_8
      case hir27_8 => simp only [List.getElem?_toArray, List.getElem?_cons_succ, List.getElem?_cons_zero]; rfl
      case hqr27_8 => exact fun _ _ _ h => h
      case hyr27_8 => (refine Or.inl ⟨by rfl, ?_⟩; intro w hSw; (try dsimp only at hSw); go_simp; all_goals with_reducible rfl)
      try simp only [Act.put, List.setIfInBounds_toArray, List.set_cons_zero, List.set_cons_succ]
      refine wpAnyH_take (i := 9) (oi := ?oir27_9) (v := ?vr27_9) ?hir27_9 (by kernel_rfl) (by kernel_rfl) (by kernel_rfl) ?hqr27_9 ?hyr27_9 (by assumption) ?restr27_9
      case hir27_9 => simp only [List.getElem?_toArray, List.getElem?_cons_succ, List.getElem?_cons_zero]; rfl
      case hqr27_9 => exact fun _ _ _ h => h
      case hyr27_9 => (refine Or.inl ⟨by rfl, ?_⟩; intro w hSw; (try dsimp only at hSw); go_simp; all_goals with_reducible rfl)
      try simp only [Act.put, List.setIfInBounds_toArray, List.set_cons_zero, List.set_cons_succ]
      refine wpAnyH_take (i := 10) (oi := ?oir27_10) (v := ?vr27_10) ?hir27_10 (by kernel_rfl) (by kernel_rfl) (by kernel_rfl) ?hqr27_10 ?hyr27_10 (by assumption) ?restr27_10
      case hir27_10 => simp only [List.getElem?_toArray, List.getElem?_cons_succ, List.getElem?_cons_zero]; rfl
      case hqr27_10 => exact fun _ _ _ h => h
      case hyr27_10 => (refine Or.inl ⟨by rfl, ?_⟩; intro w hSw; (try dsimp only at hSw); go_simp; all_goals with_reducible rfl)
      try simp only [Act.put, List.setIfInBounds_toArray, List.set_cons_zero, List.set_cons_succ]
      refine wpAnyH_take (i := 12) (oi := ?oir28_12) (v := ?vr28_12) ?hir28_12 (by kernel_rfl) (by kernel_rfl) (by kernel_rfl) ?hqr28_12 ?hyr28_12 (by assumption) ?restr28_12
      case hir28_12 => simp only [List.getElem?_toArray, List.getElem?_cons_succ, List.getElem?_cons_zero]; rfl
      case hqr28_12 => exact fun _ _ _ h => h
      case hyr28_12 => (refine Or.inl ⟨by rfl, ?_⟩; intro w hSw; (try dsimp only at hSw); go_simp; all_goals with_reducible rfl)
      try simp only [Act.put, List.setIfInBounds_toArray, List.set_cons_zero, List.set_cons_succ]
      refine wpAnyH_take (i := 13) (oi := ?oir28_13) (v := ?vr28_13) ?hir28_13 (by kernel_rfl) (by kernel_rfl) (by kernel_rfl) ?hqr28_13 ?hyr28_13 (by assumption) ?restr28_13
      case hir28_13 => simp only [List.getElem?_toArray, List.getElem?_cons_succ, List.getElem?_cons_zero]; rfl
      case hqr28_13 => exact fun _ _ _ h => h
      case hyr28_13 => (refine Or.inl ⟨by rfl, ?_⟩; intro w hSw; (try dsimp only at hSw); go_simp; all_goals with_reducible rfl)
      try simp only [Act.put, List.setIfInBounds_toArray, List.set_cons_zero, List.set_cons_succ]
      refine wpAnyH_ready (rs := [11]) (by kernel_rfl) (by simp) ?_
      refine AllReadyH.cons (o := ?or29_11) ?hor29_11 (fun K hK => ?kr29_11) AllReadyH.nil
      case hor29_11 => simp only [List.getElem?_toArray, List.getElem?_cons_succ, List.getElem?_cons_zero]; rfl
      go_simp
      refine (cmOne_any _).mono ?_
      rintro e2 wq ⟨a9, n9, c9, rfl, x9, hb⟩
      have LD := LD.later hb
      have q1 := q1.below hb
      have q2 := q2.below hb
      clear hb
      go_wp2_with fail
      refine hK.out _ _ ?_ (fun hHeld => ?_)
      · exact ⟨LD.cell 8 _ rfl, LD.cell 9 _ rfl⟩
      clear hK K
      try simp only [Act.put, List.setIfInBounds_toArray, List.set_cons_zero, List.set_cons_succ]
      refine wpAnyH_ready (rs := [14]) (by kernel_rfl) (by simp) ?_
      refine AllReadyH.cons (o := ?or30_14) ?hor30_14 (fun K hK => ?kr30_14) AllReadyH.nil
      case hor30_14 => simp only [List.getElem?_toArray, List.getElem?_cons_succ, List.getElem?_cons_zero]; rfl
      go_simp
      have cc := cmAtMost_any _ x9 q2
      rw [E2.out] at cc
      refine cc.mono ?_
      rintro e2 wq ⟨rfl, hb⟩
      clear cc
      have LD := LD.later hb
      have q1 := q1.below hb
      have q2 := q2.below hb
      clear x9
      clear hb
      go_wp2_with fail
      refine hK.out _ _ ?_ (fun hHeld => ?_)
      · exact ⟨LD.cell 8 _ rfl, LD.cell 9 _ rfl⟩
      clear hK K
      try simp only [Act.put, List.setIfInBounds_toArray, List.set_cons_zero, List.set_cons_succ]
      refine wpAnyH_take (i := 15) (oi := ?oir31_15) (v := ?vr31_15) ?hir31_15 (by kernel_rfl) (by kernel_rfl) (by kernel_rfl) ?hqr31_15 ?hyr31_15 (by assumption) ?restr31_15
      case hir31_15 => simp only [List.getElem?_toArray, List.getElem?_cons_succ, List.getElem?_cons_zero]; rfl
      case hqr31_15 => exact fun _ _ _ h => h
      case hyr31_15 => (refine Or.inl ⟨by rfl, ?_⟩; intro w hSw; (try dsimp only at hSw); go_simp; all_goals with_reducible rfl)
      try simp only [Act.put, List.setIfInBounds_toArray, List.set_cons_zero, List.set_cons_succ]
      refine wpAnyH_take (i := 16) (oi := ?oir31_16) (v := ?vr31_16) ?hir31_16 (by kernel_rfl) (by kernel_rfl) (by kernel_rfl) ?hqr31_16 ?hyr31_16 (by assumption) ?restr31_16
      case hir31_16 => simp only [List.getElem?_toArray, List.getElem?_cons_succ, List.getElem?_cons_zero]; rfl
      case hqr31_16 => exact fun _ _ _ h => h
      case hyr31_16 => (refine Or.inl ⟨by rfl, ?_⟩; intro w hSw; (try dsimp only at hSw); go_simp; all_goals with_reducible rfl)
      try simp only [Act.put, List.setIfInBounds_toArray, List.set_cons_zero, List.set_cons_succ]
      refine wpAnyH_take (i := 17) (oi := ?oir31_17) (v := ?vr31_17) ?hir31_17 (by kernel_rfl) (by kernel_rfl) (by kernel_rfl) ?hqr31_17 ?hyr31_17 (by assumption) ?restr31_17
      case hir31_17 => simp only [List.getElem?_toArray, List.getElem?_cons_succ, List.getElem?_cons_zero]; rfl
      case hqr31_17 => exact fun _ _ _ h => h
      case hyr31_17 => (refine Or.inl ⟨by rfl, ?_⟩; intro w hSw; (try dsimp only at hSw); go_simp; all_goals with_reducible rfl)
      try simp only [Act.put, List.setIfInBounds_toArray, List.set_cons_zero, List.set_cons_succ]
      refine wpAnyH_take (i := 18) (oi := ?oir32_18) (v := ?vr32_18) ?hir32_18 (by kernel_rfl) (by kernel_rfl) (by kernel_rfl) ?hqr32_18 ?hyr32_18 (by assumption) ?restr32_18
      case hir32_18 => simp only [List.getElem?_toArray, List.getElem?_cons_succ, List.getElem?_cons_zero]; rfl
      case hqr32_18 => exact fun _ _ _ h => h
      case hyr32_18 => (refine Or.inl ⟨by rfl, ?_⟩; intro w hSw; (try dsimp only at hSw); go_simp; all_goals with_reducible rfl)
      try simp only [Act.put, List.setIfInBounds_toArray, List.set_cons_zero, List.set_cons_succ]
      refine wpAnyH_take (i := 19) (oi := ?oir32_19) (v := ?vr32_19) ?hir32_19 (by kernel_rfl) (by kernel_rfl) (by kernel_rfl) ?hqr32_19 ?hyr32_19 (by assumption) ?restr32_19
      case hir32_19 => simp only [List.getElem?_toArray, List.getElem?_cons_succ, List.getElem?_cons_zero]; rfl
      case hqr32_19 => exact fun _ _ _ h => h
      case hyr32_19 => (refine Or.inl ⟨by rfl, ?_⟩; intro w hSw; (try dsimp only at hSw); go_simp; all_goals with_reducible rfl)
      try simp only [Act.put, List.setIfInBounds_toArray, List.set_cons_zero, List.set_cons_succ]
      refine wpAnyH_ready (rs := [20]) (by kernel_rfl) (by simp) ?_
      refine AllReadyH.cons (o := ?or33_20) ?hor33_20 (fun K hK => ?kr33_20) AllReadyH.nil
      case hor33_20 => simp only [List.getElem?_toArray, List.getElem?_cons_succ, List.getElem?_cons_zero]; rfl
      go_simp
      refine (cmMost_any _).mono ?_
      rintro e2 wq ⟨a9, n9, c9, rfl, x9, hb⟩
      have LD := LD.later hb
      have q1 := q1.below hb
      have q2 := q2.below hb
      clear hb
      go_wp2_with fail
      refine hK.out _ _ ?_ (fun hHeld => ?_)
      · exact ⟨LD.cell 8 _ rfl, LD.cell 9 _ rfl⟩
      clear hK K
      try simp only [Act.put, List.setIfInBounds_toArray, List.set_cons_zero, List.set_cons_succ]
      refine wpAnyH_ready (rs := [21]) (by kernel_rfl) (by simp) ?_
      refine AllReadyH.cons (o := ?or34_21) ?hor34_21 (fun K hK => ?kr34_21) AllReadyH.nil
      case hor34_21 => simp only [List.getElem?_toArray, List.getElem?_cons_succ, List.getElem?_cons_zero]; rfl
      go_simp
      have cc := cmAtMost_any _ q2 x9
      rw [E3.out] at cc
      refine cc.mono ?_
      rintro e2 wq ⟨rfl, hb⟩
      clear cc
      have LD := LD.later hb
      have q1 := q1.below hb
      have q2 := q2.below hb
      clear x9
      clear hb
      go_wp2_with fail
      refine hK.out _ _ ?_ (fun hHeld => ?_)
      · exact ⟨LD.cell 8 _ rfl, LD.cell 9 _ rfl⟩
      clear hK K
      try simp only [Act.put, List.setIfInBounds_toArray, List.set_cons_zero, List.set_cons_succ]
      refine wpAnyH_take (i := 22) (oi := ?oir35_22) (v := ?vr35_22) ?hir35_22 (by kernel_rfl) (by kernel_rfl) (by kernel_rfl) ?hqr35_22 ?hyr35_22 (by assumption) ?restr35_22
      case hir35_22 => simp only [List.getElem?_toArray, List.getElem?_cons_succ, List.getElem?_cons_zero]; rfl
      case hqr35_22 => exact fun _ _ _ h => h
      case hyr35_22 => (refine Or.inl ⟨by rfl, ?_⟩; intro w hSw; (try dsimp only at hSw); go_simp; all_goals with_reducible rfl)
      try simp only [Act.put, List.setIfInBounds_toArray, List.set_cons_zero, List.set_cons_succ]
      refine wpAnyH_take (i := 23) (oi := ?oir35_23) (v := ?vr35_23) ?hir35_23 (by kernel_rfl) (by kernel_rfl) (by kernel_rfl) ?hqr35_23 ?hyr35_23 (by assumption) ?restr35_23
      case hir35_23 => simp only [List.getElem?_toArray, List.getElem?_cons_succ, List.getElem?_cons_zero]; rfl
      case hqr35_23 => exact fun _ _ _ h => h
      case hyr35_23 => (refine Or.inl ⟨by rfl, ?_⟩; intro w hSw; (try dsimp only at hSw); go_simp; all_goals with_reducible rfl)
      try simp only [Act.put, List.setIfInBounds_toArray, List.set_cons_zero, List.set_cons_succ]
      refine wpAnyH_done (by kernel_rfl) ?_ _
      go_wp2_with fail
      go_ret
      exact ⟨by rw [e.out]; rfl, LD.below⟩

end Go.Proofs.Ytmkcdlhhbnakiaa
