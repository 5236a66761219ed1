/- Check of comparison audits. -/
import Derived.Test.YtmkcdlhhbnakiaaCmpC
import Derived.Deep.CutRange
namespace Go.Proofs.Ytmkcdlhhbnakiaa
open Go.RowKit Go.Suf
set_option linter.unusedVariables false
set_option linter.unusedSimpArgs false

def seenN (q : CV) : Nat → Int
  | 0 => q.s0
  | 1 => q.s1
  | 2 => q.s2
  | 3 => q.s3
  | _ => q.s4

/-- The error in front of the k-th count. -/
def eK (q : CV) : Nat → Int
  | 0 => (newCC q.bet q.ballots q.margin).2
  | k + 1 => if inS (seenN q k) then eK q k else 8

theorem eK_yes {q : CV} {k : Nat} (h : inS (seenN q k)) : eK q (k + 1) = eK q k := by
  show (if inS (seenN q k) then eK q k else 8) = _
  rw [if_pos h]
theorem eK_no {q : CV} {k : Nat} (h : ¬ inS (seenN q k)) : eK q (k + 1) = 8 := by
  show (if inS (seenN q k) then eK q k else 8) = _
  rw [if_neg h]

theorem eK_zero {q : CV} : eK q 5 = 0 ↔ mayC q.bet q.ballots q.margin ∧ seenOkC q = true := by
  have h0 : eK q 0 = 0 ↔ mayC q.bet q.ballots q.margin := by
    show (newCC q.bet q.ballots q.margin).2 = 0 ↔ _
    unfold newCC
    split
    · simp [*]
    · simp [*]
  have hs : ∀ k, eK q (k + 1) = 0 ↔ inS (seenN q k) ∧ eK q k = 0 := fun k => by
    by_cases h : inS (seenN q k)
    · rw [eK_yes h]; simp [h]
    · rw [eK_no h]; simp [h]
  rw [hs, hs, hs, hs, hs, h0]
  unfold seenOkC
  rw [decide_eq_true_eq]
  show inS q.s4 ∧ inS q.s3 ∧ inS q.s2 ∧ inS q.s1 ∧ inS q.s0 ∧ _ ↔ _
  constructor
  · rintro ⟨a, b, c, d, e, f⟩; exact ⟨f, e, d, c, b, a⟩
  · rintro ⟨f, e, d, c, b, a⟩; exact ⟨a, b, c, d, e, f⟩

theorem run_index5 (cs : Array Value) (k : Nat) (hk : k < 5) (v : Value) (hv : cs[k]? = some v) (W : World) : (Instr.index 22 (.agg cs) (.int .i64 (k : Nat))).run Try.prog W = .ok v W := by
  simp [Instr.index, asIntOf, run_underlying Try.underlying22, part, Try.isAgg3, Try.sizeOf3, hk, hv]

theorem chkC_no {q : CV} (h : ¬ (eK q 5 = 0 ∧ leC q.lev q.best = true ∧ leC [0, 0, 1] q.best = true ∧ leC q.best [0, 0, 0, 0, 1] = true)) : chkC q = 8 := by
  unfold chkC
  rw [if_neg]
  rintro ⟨a, b, c, d, e⟩
  exact h ⟨eK_zero.2 ⟨a, b⟩, c, d, e⟩

theorem chkC_yes {q : CV} (h : eK q 5 = 0 ∧ leC q.lev q.best = true ∧ leC [0, 0, 1] q.best = true ∧ leC q.best [0, 0, 0, 0, 1] = true) : chkC q = 0 := by
  unfold chkC
  rw [if_pos ⟨(eK_zero.1 h.1).1, (eK_zero.1 h.1).2, h.2.1, h.2.2.1, h.2.2.2⟩]

set_option maxRecDepth 100000 in
set_option maxHeartbeats 8000000 in
theorem cmCheck_any (w : World) {q : CV} {a b : Option Addr} {n m c d : Nat} (h1 : Rd .u32 w a n c q.lev) (h2 : Rd .u32 w b m d q.best) (hw : CW q) :
    Calls Try.prog 20 #[cmV q a n c b m d] w (RetIB w (chkC q)) := by
  obtain ⟨r, hr⟩ : ∃ r, r = chkC q := ⟨_, rfl⟩
  rw [← hr]
  have HR := Lib.hid hr
  clear hr
  have L1 := Has.new w (cmC q a n c b m d) 25
  have k0 := L1.cell 0 _ rfl
  have k1 := L1.cell 1 _ rfl
  have k2 := L1.cell 2 _ rfl
  go_enter Try.func20, Try.ntmps20
  go_wp2_with fail
  have cc := cmNew_any (w.alloc (.cells (cmC q a n c b m d) 25)) q.bet q.ballots q.margin
  refine cc.mono ?_
  rintro e1 w1 ⟨a1, n1, c1, b1, m1, d1, rfl, -, -, hb⟩
  clear cc k0 k1 k2
  have hA := below_al w1 (.cells (cmC (newCC q.bet q.ballots q.margin).1 a1 n1 c1 b1 m1 d1) 25)
  have LD := (L1.later hb).later hA
  have q1 := (h1.below L1.below).below hb |>.below hA
  have q2 := (h2.below L1.below).below hb |>.below hA
  have k3 := LD.cell 3 _ rfl
  have k4 := LD.cell 4 _ rfl
  have k5 := LD.cell 5 _ rfl
  have k6 := LD.cell 6 _ rfl
  have k7 := LD.cell 7 _ rfl
  clear hb hA L1 h1 h2
  go_wp2_with (refine wpList_store_new rfl 25 _ _ rfl atCmp _ _ _ rfl rfl rfl rfl (cm_one (newCC q.bet q.ballots q.margin).1 _ _ _ _ _ _) ?_)
  generalize (w1.alloc (.cells (cmC (newCC q.bet q.ballots q.margin).1 a1 n1 c1 b1 m1 d1) 25)) = W at *
  clear k3 k4 k5 k6 k7
  go_loopw [4, 19] (fun e i wr => ∃ (k : Nat), k ≤ 5 ∧ i = .int .i64 (k : Nat) ∧ e = .int .i64 (eK q k) ∧ wr = W) (fun _ i _ => 5 - (intOf i).toNat)
  case atStart => exact ⟨0, by decide, rfl, rfl, rfl⟩
  case round =>
    obtain ⟨k, hk, rfl, rfl, hW⟩ := hrel
    have hW := hW.symm
    subst hW
    by_cases hlt : k < 5
    · have five : k = 0 ∨ k = 1 ∨ k = 2 ∨ k = 3 ∨ k = 4 := by omega
      clear hlt hk
      rcases five with rfl | rfl | rfl | rfl | rfl
      · have ix : ∀ W, (Instr.index 22 (.agg #[.int .i64 q.s0, .int .i64 q.s1, .int .i64 q.s2, .int .i64 q.s3, .int .i64 q.s4]) (.int .i64 0)).run Try.prog W = .ok (.int .i64 q.s0) W := fun W => run_index5 _ 0 (by decide) _ rfl W
        by_cases hs : 0 ≤ q.s0 ∧ q.s0 ≤ 1000000
        · have D := Lib.hid (show decide (0 ≤ q.s0 ∧ q.s0 ≤ 1000000) = true from decide_eq_true hs)
          have NX := Lib.hid (show eK q 1 = eK q 0 from eK_yes (by unfold inS; exact hs))
          clear hs
          go_wp2_with fail
          have cc := within_any W q.s0 0 1000000
          rw [D.out] at cc
          refine cc.mono ?_
          rintro e1 w9 ⟨rfl, hw⟩
          have hw := hw.symm
          subst hw
          clear cc
          go_wp2_with fail
          go_roundw
          case rel => exact ⟨1, by decide, by go_num, by rw [NX.out], by first | rfl | trivial⟩
          case measure => simp [intOf]
        · have D := Lib.hid (show decide (0 ≤ q.s0 ∧ q.s0 ≤ 1000000) = false from decide_eq_false hs)
          have NX := Lib.hid (show eK q 1 = 8 from eK_no (by unfold inS; exact hs))
          clear hs
          go_wp2_with fail
          have cc := within_any W q.s0 0 1000000
          rw [D.out] at cc
          refine cc.mono ?_
          rintro e1 w9 ⟨rfl, hw⟩
          have hw := hw.symm
          subst hw
          clear cc
          go_wp2_with fail
          go_roundw
          case rel => exact ⟨1, by decide, by go_num, by rw [NX.out], by first | rfl | trivial⟩
          case measure => simp [intOf]
      · have ix : ∀ W, (Instr.index 22 (.agg #[.int .i64 q.s0, .int .i64 q.s1, .int .i64 q.s2, .int .i64 q.s3, .int .i64 q.s4]) (.int .i64 1)).run Try.prog W = .ok (.int .i64 q.s1) W := fun W => run_index5 _ 1 (by decide) _ rfl W
        by_cases hs : 0 ≤ q.s1 ∧ q.s1 ≤ 1000000
        · have D := Lib.hid (show decide (0 ≤ q.s1 ∧ q.s1 ≤ 1000000) = true from decide_eq_true hs)
          have NX := Lib.hid (show eK q 2 = eK q 1 from eK_yes (by unfold inS; exact hs))
          clear hs
          go_wp2_with fail
          have cc := within_any W q.s1 0 1000000
          rw [D.out] at cc
          refine cc.mono ?_
          rintro e1 w9 ⟨rfl, hw⟩
          have hw := hw.symm
          subst hw
          clear cc
          go_wp2_with fail
          go_roundw
          case rel => exact ⟨2, by decide, by go_num, by rw [NX.out], by first | rfl | trivial⟩
          case measure => simp [intOf]
        · have D := Lib.hid (show decide (0 ≤ q.s1 ∧ q.s1 ≤ 1000000) = false from decide_eq_false hs)
          have NX := Lib.hid (show eK q 2 = 8 from eK_no (by unfold inS; exact hs))
          clear hs
          go_wp2_with fail
          have cc := within_any W q.s1 0 1000000
          rw [D.out] at cc
          refine cc.mono ?_
          rintro e1 w9 ⟨rfl, hw⟩
          have hw := hw.symm
          subst hw
          clear cc
          go_wp2_with fail
          go_roundw
          case rel => exact ⟨2, by decide, by go_num, by rw [NX.out], by first | rfl | trivial⟩
          case measure => simp [intOf]
      · have ix : ∀ W, (Instr.index 22 (.agg #[.int .i64 q.s0, .int .i64 q.s1, .int .i64 q.s2, .int .i64 q.s3, .int .i64 q.s4]) (.int .i64 2)).run Try.prog W = .ok (.int .i64 q.s2) W := fun W => run_index5 _ 2 (by decide) _ rfl W
        by_cases hs : 0 ≤ q.s2 ∧ q.s2 ≤ 1000000
        · have D := Lib.hid (show decide (0 ≤ q.s2 ∧ q.s2 ≤ 1000000) = true from decide_eq_true hs)
          have NX := Lib.hid (show eK q 3 = eK q 2 from eK_yes (by unfold inS; exact hs))
          clear hs
          go_wp2_with fail
          have cc := within_any W q.s2 0 1000000
          rw [D.out] at cc
          refine cc.mono ?_
          rintro e1 w9 ⟨rfl, hw⟩
          have hw := hw.symm
          subst hw
          clear cc
          go_wp2_with fail
          go_roundw
          case rel => exact ⟨3, by decide, by go_num, by rw [NX.out], by first | rfl | trivial⟩
          case measure => simp [intOf]
        · have D := Lib.hid (show decide (0 ≤ q.s2 ∧ q.s2 ≤ 1000000) = false from decide_eq_false hs)
          have NX := Lib.hid (show eK q 3 = 8 from eK_no (by unfold inS; exact hs))
          clear hs
          go_wp2_with fail
          have cc := within_any W q.s2 0 1000000
          rw [D.out] at cc
          refine cc.mono ?_
          rintro e1 w9 ⟨rfl, hw⟩
          have hw := hw.symm
          subst hw
          clear cc
          go_wp2_with fail
          go_roundw
          case rel => exact ⟨3, by decide, by go_num, by rw [NX.out], by first | rfl | trivial⟩
          case measure => simp [intOf]
      · have ix : ∀ W, (Instr.index 22 (.agg #[.int .i64 q.s0, .int .i64 q.s1, .int .i64 q.s2, .int .i64 q.s3, .int .i64 q.s4]) (.int .i64 3)).run Try.prog W = .ok (.int .i64 q.s3) W := fun W => run_index5 _ 3 (by decide) _ rfl W
        by_cases hs : 0 ≤ q.s3 ∧ q.s3 ≤ 1000000
        · have D := Lib.hid (show decide (0 ≤ q.s3 ∧ q.s3 ≤ 1000000) = true from decide_eq_true hs)
          have NX := Lib.hid (show eK q 4 = eK q 3 from eK_yes (by unfold inS; exact hs))
          clear hs
          go_wp2_with fail
          have cc := within_any W q.s3 0 1000000
          rw [D.out] at cc
          refine cc.mono ?_
          rintro e1 w9 ⟨rfl, hw⟩
          have hw := hw.symm
          subst hw
          clear cc
          go_wp2_with fail
          go_roundw
          case rel => exact ⟨4, by decide, by go_num, by rw [NX.out], by first | rfl | trivial⟩
          case measure => simp [intOf]
        · have D := Lib.hid (show decide (0 ≤ q.s3 ∧ q.s3 ≤ 1000000) = false from decide_eq_false hs)
          have NX := Lib.hid (show eK q 4 = 8 from eK_no (by unfold inS; exact hs))
          clear hs
          go_wp2_with fail
          have cc := within_any W q.s3 0 1000000
          rw [D.out] at cc
          refine cc.mono ?_
          rintro e1 w9 ⟨rfl, hw⟩
          have hw := hw.symm
          subst hw
          clear cc
          go_wp2_with fail
          go_roundw
          case rel => exact ⟨4, by decide, by go_num, by rw [NX.out], by first | rfl | trivial⟩
          case measure => simp [intOf]
      · have ix : ∀ W, (Instr.index 22 (.agg #[.int .i64 q.s0, .int .i64 q.s1, .int .i64 q.s2, .int .i64 q.s3, .int .i64 q.s4]) (.int .i64 4)).run Try.prog W = .ok (.int .i64 q.s4) W := fun W => run_index5 _ 4 (by decide) _ rfl W
        by_cases hs : 0 ≤ q.s4 ∧ q.s4 ≤ 1000000
        · have D := Lib.hid (show decide (0 ≤ q.s4 ∧ q.s4 ≤ 1000000) = true from decide_eq_true hs)
          have NX := Lib.hid (show eK q 5 = eK q 4 from eK_yes (by unfold inS; exact hs))
          clear hs
          go_wp2_with fail
          have cc := within_any W q.s4 0 1000000
          rw [D.out] at cc
          refine cc.mono ?_
          rintro e1 w9 ⟨rfl, hw⟩
          have hw := hw.symm
          subst hw
          clear cc
          go_wp2_with fail
          go_roundw
          case rel => exact ⟨5, by decide, by go_num, by rw [NX.out], by first | rfl | trivial⟩
          case measure => simp [intOf]
        · have D := Lib.hid (show decide (0 ≤ q.s4 ∧ q.s4 ≤ 1000000) = false from decide_eq_false hs)
          have NX := Lib.hid (show eK q 5 = 8 from eK_no (by unfold inS; exact hs))
          clear hs
          go_wp2_with fail
          have cc := within_any W q.s4 0 1000000
          rw [D.out] at cc
          refine cc.mono ?_
          rintro e1 w9 ⟨rfl, hw⟩
          have hw := hw.symm
          subst hw
          clear cc
          go_wp2_with fail
          go_roundw
          case rel => exact ⟨5, by decide, by go_num, by rw [NX.out], by first | rfl | trivial⟩
          case measure => simp [intOf]
    · obtain rfl : k = 5 := by omega
      clear hk hlt
      obtain ⟨z, hz⟩ : ∃ z, z = eK q 5 := ⟨_, rfl⟩
      have HZ := Lib.hid hz
      rw [← hz]
      clear hz
      by_cases hb0 : z = 0
      case neg =>
        have dz : (z != 0) = true := by rw [bne_iff_ne]; exact hb0
        have e := Lib.hid (show r = 8 by rw [HR.out]; exact chkC_no (fun h => hb0 (HZ.out.trans h.1)))
        clear hb0
        go_upto_region 8 with fail
        have hb := (Below.refl W.heap.size W).drew
        have LD := LD.later hb
        have q1 := q1.below hb
        have q2 := q2.below hb
        clear hb
        refine wp_region_held_drew (S := (fun w' => w'.cell? ⟨w.heap.size, 8, none⟩ = some (.slice a n c) ∧ w'.cell? ⟨w.heap.size, 9, none⟩ = some (.slice b m d))) (by kernel_rfl) ?_ (fun hHeld => ?_)
        · exact ⟨LD.cell 8 _ rfl, LD.cell 9 _ rfl⟩
        generalize W.drew = WD at *
        refine wpAnyH_take (i := 0) (oi := ?a1_0) (v := ?b1_0) ?c1_0 (by kernel_rfl) (by kernel_rfl) (by kernel_rfl) ?d1_0 ?e1_0 (by assumption) ?f1_0
        case c1_0 => simp only [tA, tS, tZ]; rfl
        case d1_0 => exact fun _ _ _ h => h
        case e1_0 => (refine Or.inl ⟨by rfl, ?_⟩; intro w h; (try dsimp only at h); go_simp; all_goals with_reducible rfl)
        try simp only [Act.put, tI, tP, tQ]
        refine wpAnyH_take (i := 1) (oi := ?a1_1) (v := ?b1_1) ?c1_1 (by kernel_rfl) (by kernel_rfl) (by kernel_rfl) ?d1_1 ?e1_1 (by assumption) ?f1_1
        case c1_1 => simp only [tA, tS, tZ]; rfl
        case d1_1 => exact fun _ _ _ h => h
        case e1_1 => (refine Or.inl ⟨by rfl, ?_⟩; intro w h; (try dsimp only at h); go_simp; all_goals with_reducible rfl)
        try simp only [Act.put, tI, tP, tQ]
        refine wpAnyH_take (i := 2) (oi := ?a1_2) (v := ?b1_2) ?c1_2 (by kernel_rfl) (by kernel_rfl) (by kernel_rfl) ?d1_2 ?e1_2 (by assumption) ?f1_2
        case c1_2 => simp only [tA, tS, tZ]; rfl
        case d1_2 => exact fun _ _ _ h => h
        case e1_2 => (refine Or.inl ⟨by rfl, ?_⟩; intro w h; (try dsimp only at h); go_simp; all_goals with_reducible rfl)
        try simp only [Act.put, tI, tP, tQ]
        refine wpAnyH_take (i := 3) (oi := ?oir1_3) (v := undef) ?hir1_3 (by kernel_rfl) (by kernel_rfl) (by kernel_rfl) ?hqr1_3 ?hyr1_3 (by assumption) ?restr1_3
        case hir1_3 => simp only [List.getElem?_toArray, List.getElem?_cons_succ, List.getElem?_cons_zero]; rfl
        case hqr1_3 => exact fun _ _ _ h => h
        case hyr1_3 => exact Or.inr ⟨by rfl, rfl⟩
        try simp only [Act.put, List.setIfInBounds_toArray, List.set_cons_zero, List.set_cons_succ]
        refine wpAnyH_take (i := 4) (oi := ?oir1_4) (v := undef) ?hir1_4 (by kernel_rfl) (by kernel_rfl) (by kernel_rfl) ?hqr1_4 ?hyr1_4 (by assumption) ?restr1_4
        case hir1_4 => simp only [List.getElem?_toArray, List.getElem?_cons_succ, List.getElem?_cons_zero]; rfl
        case hqr1_4 => exact fun _ _ _ h => h
        case hyr1_4 => exact Or.inr ⟨by rfl, rfl⟩
        try simp only [Act.put, List.setIfInBounds_toArray, List.set_cons_zero, List.set_cons_succ]
        refine wpAnyH_take (i := 5) (oi := ?oir1_5) (v := undef) ?hir1_5 (by kernel_rfl) (by kernel_rfl) (by kernel_rfl) ?hqr1_5 ?hyr1_5 (by assumption) ?restr1_5
        case hir1_5 => simp only [List.getElem?_toArray, List.getElem?_cons_succ, List.getElem?_cons_zero]; rfl
        case hqr1_5 => exact fun _ _ _ h => h
        case hyr1_5 => exact Or.inr ⟨by rfl, rfl⟩
        try simp only [Act.put, List.setIfInBounds_toArray, List.set_cons_zero, List.set_cons_succ]
        refine wpAnyH_take (i := 6) (oi := ?oir1_6) (v := undef) ?hir1_6 (by kernel_rfl) (by kernel_rfl) (by kernel_rfl) ?hqr1_6 ?hyr1_6 (by assumption) ?restr1_6
        case hir1_6 => simp only [List.getElem?_toArray, List.getElem?_cons_succ, List.getElem?_cons_zero]; rfl
        case hqr1_6 => exact fun _ _ _ h => h
        case hyr1_6 => exact Or.inr ⟨by rfl, rfl⟩
        try simp only [Act.put, List.setIfInBounds_toArray, List.set_cons_zero, List.set_cons_succ]
        refine wpAnyH_take (i := 7) (oi := ?oir1_7) (v := undef) ?hir1_7 (by kernel_rfl) (by kernel_rfl) (by kernel_rfl) ?hqr1_7 ?hyr1_7 (by assumption) ?restr1_7
        case hir1_7 => simp only [List.getElem?_toArray, List.getElem?_cons_succ, List.getElem?_cons_zero]; rfl
        case hqr1_7 => exact fun _ _ _ h => h
        case hyr1_7 => exact Or.inr ⟨by rfl, rfl⟩
        try simp only [Act.put, List.setIfInBounds_toArray, List.set_cons_zero, List.set_cons_succ]
        refine wpAnyH_take (i := 8) (oi := ?oir1_8) (v := undef) ?hir1_8 (by kernel_rfl) (by kernel_rfl) (by kernel_rfl) ?hqr1_8 ?hyr1_8 (by assumption) ?restr1_8
        case hir1_8 => simp only [List.getElem?_toArray, List.getElem?_cons_succ, List.getElem?_cons_zero]; rfl
        case hqr1_8 => exact fun _ _ _ h => h
        case hyr1_8 => exact Or.inr ⟨by rfl, rfl⟩
        try simp only [Act.put, List.setIfInBounds_toArray, List.set_cons_zero, List.set_cons_succ]
        refine wpAnyH_take (i := 9) (oi := ?a1_9) (v := ?b1_9) ?c1_9 (by kernel_rfl) (by kernel_rfl) (by kernel_rfl) ?d1_9 ?e1_9 (by assumption) ?f1_9
        case c1_9 => simp only [tA, tS, tZ]; rfl
        case d1_9 => exact fun _ _ _ h => h
        case e1_9 => (refine Or.inl ⟨by rfl, ?_⟩; intro w h; (try dsimp only at h); go_simp; all_goals with_reducible rfl)
        try simp only [Act.put, tI, tP, tQ]
        refine wpAnyH_take (i := 10) (oi := ?a1_10) (v := ?b1_10) ?c1_10 (by kernel_rfl) (by kernel_rfl) (by kernel_rfl) ?d1_10 ?e1_10 (by assumption) ?f1_10
        case c1_10 => simp only [tA, tS, tZ]; rfl
        case d1_10 => exact fun _ _ _ h => h
        case e1_10 => (refine Or.inl ⟨by rfl, ?_⟩; intro w h; (try dsimp only at h); go_simp; all_goals with_reducible rfl)
        try simp only [Act.put, tI, tP, tQ]
        refine wpAnyH_take (i := 11) (oi := ?oir1_11) (v := undef) ?hir1_11 (by kernel_rfl) (by kernel_rfl) (by kernel_rfl) ?hqr1_11 ?hyr1_11 (by assumption) ?restr1_11
        case hir1_11 => simp only [List.getElem?_toArray, List.getElem?_cons_succ, List.getElem?_cons_zero]; rfl
        case hqr1_11 => exact fun _ _ _ h => h
        case hyr1_11 => exact Or.inr ⟨by rfl, rfl⟩
        try simp only [Act.put, List.setIfInBounds_toArray, List.set_cons_zero, List.set_cons_succ]
        refine wpAnyH_take (i := 12) (oi := ?oir1_12) (v := undef) ?hir1_12 (by kernel_rfl) (by kernel_rfl) (by kernel_rfl) ?hqr1_12 ?hyr1_12 (by assumption) ?restr1_12
        case hir1_12 => simp only [List.getElem?_toArray, List.getElem?_cons_succ, List.getElem?_cons_zero]; rfl
        case hqr1_12 => exact fun _ _ _ h => h
        case hyr1_12 => exact Or.inr ⟨by rfl, rfl⟩
        try simp only [Act.put, List.setIfInBounds_toArray, List.set_cons_zero, List.set_cons_succ]
        refine wpAnyH_take (i := 13) (oi := ?oir1_13) (v := undef) ?hir1_13 (by kernel_rfl) (by kernel_rfl) (by kernel_rfl) ?hqr1_13 ?hyr1_13 (by assumption) ?restr1_13
        case hir1_13 => simp only [List.getElem?_toArray, List.getElem?_cons_succ, List.getElem?_cons_zero]; rfl
        case hqr1_13 => exact fun _ _ _ h => h
        case hyr1_13 => exact Or.inr ⟨by rfl, rfl⟩
        try simp only [Act.put, List.setIfInBounds_toArray, List.set_cons_zero, List.set_cons_succ]
        refine wpAnyH_take (i := 14) (oi := ?oir1_14) (v := undef) ?hir1_14 (by kernel_rfl) (by kernel_rfl) (by kernel_rfl) ?hqr1_14 ?hyr1_14 (by assumption) ?restr1_14
        case hir1_14 => simp only [List.getElem?_toArray, List.getElem?_cons_succ, List.getElem?_cons_zero]; rfl
        case hqr1_14 => exact fun _ _ _ h => h
        case hyr1_14 => exact Or.inr ⟨by rfl, rfl⟩
        try simp only [Act.put, List.setIfInBounds_toArray, List.set_cons_zero, List.set_cons_succ]
        refine wpAnyH_take (i := 15) (oi := ?oir1_15) (v := undef) ?hir1_15 (by kernel_rfl) (by kernel_rfl) (by kernel_rfl) ?hqr1_15 ?hyr1_15 (by assumption) ?restr1_15
        case hir1_15 => simp only [List.getElem?_toArray, List.getElem?_cons_succ, List.getElem?_cons_zero]; rfl
        case hqr1_15 => exact fun _ _ _ h => h
        case hyr1_15 => exact Or.inr ⟨by rfl, rfl⟩
        try simp only [Act.put, List.setIfInBounds_toArray, List.set_cons_zero, List.set_cons_succ]
        refine wpAnyH_take (i := 16) (oi := ?a1_16) (v := ?b1_16) ?c1_16 (by kernel_rfl) (by kernel_rfl) (by kernel_rfl) ?d1_16 ?e1_16 (by assumption) ?f1_16
        case c1_16 => simp only [tA, tS, tZ]; rfl
        case d1_16 => exact fun _ _ _ h => h
        case e1_16 => (refine Or.inl ⟨by rfl, ?_⟩; intro w h; (try dsimp only at h); go_simp; all_goals with_reducible rfl)
        try simp only [Act.put, tI, tP, tQ]
        refine wpAnyH_take (i := 17) (oi := ?a1_17) (v := ?b1_17) ?c1_17 (by kernel_rfl) (by kernel_rfl) (by kernel_rfl) ?d1_17 ?e1_17 (by assumption) ?f1_17
        case c1_17 => simp only [tA, tS, tZ]; rfl
        case d1_17 => exact fun _ _ _ h => h
        case e1_17 => (refine Or.inl ⟨by rfl, ?_⟩; intro w h; (try dsimp only at h); go_simp; all_goals with_reducible rfl)
        try simp only [Act.put, tI, tP, tQ]
        refine wpAnyH_take (i := 18) (oi := ?oir1_18) (v := undef) ?hir1_18 (by kernel_rfl) (by kernel_rfl) (by kernel_rfl) ?hqr1_18 ?hyr1_18 (by assumption) ?restr1_18
        case hir1_18 => simp only [List.getElem?_toArray, List.getElem?_cons_succ, List.getElem?_cons_zero]; rfl
        case hqr1_18 => exact fun _ _ _ h => h
        case hyr1_18 => exact Or.inr ⟨by rfl, rfl⟩
        try simp only [Act.put, List.setIfInBounds_toArray, List.set_cons_zero, List.set_cons_succ]
        refine wpAnyH_take (i := 19) (oi := ?oir1_19) (v := undef) ?hir1_19 (by kernel_rfl) (by kernel_rfl) (by kernel_rfl) ?hqr1_19 ?hyr1_19 (by assumption) ?restr1_19
        case hir1_19 => simp only [List.getElem?_toArray, List.getElem?_cons_succ, List.getElem?_cons_zero]; rfl
        case hqr1_19 => exact fun _ _ _ h => h
        case hyr1_19 => exact Or.inr ⟨by rfl, rfl⟩
        try simp only [Act.put, List.setIfInBounds_toArray, List.set_cons_zero, List.set_cons_succ]
        refine wpAnyH_take (i := 20) (oi := ?oir1_20) (v := undef) ?hir1_20 (by kernel_rfl) (by kernel_rfl) (by kernel_rfl) ?hqr1_20 ?hyr1_20 (by assumption) ?restr1_20
        case hir1_20 => simp only [List.getElem?_toArray, List.getElem?_cons_succ, List.getElem?_cons_zero]; rfl
        case hqr1_20 => exact fun _ _ _ h => h
        case hyr1_20 => exact Or.inr ⟨by rfl, rfl⟩
        try simp only [Act.put, List.setIfInBounds_toArray, List.set_cons_zero, List.set_cons_succ]
        refine wpAnyH_take (i := 21) (oi := ?oir1_21) (v := undef) ?hir1_21 (by kernel_rfl) (by kernel_rfl) (by kernel_rfl) ?hqr1_21 ?hyr1_21 (by assumption) ?restr1_21
        case hir1_21 => simp only [List.getElem?_toArray, List.getElem?_cons_succ, List.getElem?_cons_zero]; rfl
        case hqr1_21 => exact fun _ _ _ h => h
        case hyr1_21 => exact Or.inr ⟨by rfl, rfl⟩
        try simp only [Act.put, List.setIfInBounds_toArray, List.set_cons_zero, List.set_cons_succ]
        refine wpAnyH_take (i := 22) (oi := ?oir1_22) (v := undef) ?hir1_22 (by kernel_rfl) (by kernel_rfl) (by kernel_rfl) ?hqr1_22 ?hyr1_22 (by assumption) ?restr1_22
        case hir1_22 => simp only [List.getElem?_toArray, List.getElem?_cons_succ, List.getElem?_cons_zero]; rfl
        case hqr1_22 => exact fun _ _ _ h => h
        case hyr1_22 => exact Or.inr ⟨by rfl, rfl⟩
        try simp only [Act.put, List.setIfInBounds_toArray, List.set_cons_zero, List.set_cons_succ]
        refine wpAnyH_take (i := 23) (oi := ?a1_23) (v := ?b1_23) ?c1_23 (by kernel_rfl) (by kernel_rfl) (by kernel_rfl) ?d1_23 ?e1_23 (by assumption) ?f1_23
        case c1_23 => simp only [tA, tS, tZ]; rfl
        case d1_23 => exact fun _ _ _ h => h
        case e1_23 => (refine Or.inl ⟨by rfl, ?_⟩; intro w h; (try dsimp only at h); go_simp; all_goals with_reducible rfl)
        try simp only [Act.put, tI, tP, tQ]
        refine wpAnyH_done (by kernel_rfl) ?_ _
        go_wp2_with fail
        go_ret
        exact ⟨by rw [e.out]; rfl, LD.below⟩
      case pos =>
      subst hb0
      cases c1 : leC q.lev q.best
      case false =>
        have e := Lib.hid (show r = 8 by rw [HR.out]; exact chkC_no (fun h => by have := h.2.1; rw [c1] at this; simp at this))
        have E1 := Lib.hid c1
        clear c1
        go_upto_region 8 with fail
        have hb := (Below.refl W.heap.size W).drew
        have LD := LD.later hb
        have q1 := q1.below hb
        have q2 := q2.below hb
        clear hb
        refine wp_region_held_drew (S := (fun w' => w'.cell? ⟨w.heap.size, 8, none⟩ = some (.slice a n c) ∧ w'.cell? ⟨w.heap.size, 9, none⟩ = some (.slice b m d))) (by kernel_rfl) ?_ (fun hHeld => ?_)
        · exact ⟨LD.cell 8 _ rfl, LD.cell 9 _ rfl⟩
        generalize W.drew = WD at *
        refine wpAnyH_take (i := 0) (oi := ?a2_0) (v := ?b2_0) ?c2_0 (by kernel_rfl) (by kernel_rfl) (by kernel_rfl) ?d2_0 ?e2_0 (by assumption) ?f2_0
        case c2_0 => simp only [tA, tS, tZ]; rfl
        case d2_0 => exact fun _ _ _ h => h
        case e2_0 => (refine Or.inl ⟨by rfl, ?_⟩; intro w h; (try dsimp only at h); go_simp; all_goals with_reducible rfl)
        try simp only [Act.put, tI, tP, tQ]
        refine wpAnyH_take (i := 1) (oi := ?a2_1) (v := ?b2_1) ?c2_1 (by kernel_rfl) (by kernel_rfl) (by kernel_rfl) ?d2_1 ?e2_1 (by assumption) ?f2_1
        case c2_1 => simp only [tA, tS, tZ]; rfl
        case d2_1 => exact fun _ _ _ h => h
        case e2_1 => (refine Or.inl ⟨by rfl, ?_⟩; intro w h; (try dsimp only at h); go_simp; all_goals with_reducible rfl)
        try simp only [Act.put, tI, tP, tQ]
        refine wpAnyH_take (i := 2) (oi := ?a2_2) (v := ?b2_2) ?c2_2 (by kernel_rfl) (by kernel_rfl) (by kernel_rfl) ?d2_2 ?e2_2 (by assumption) ?f2_2
        case c2_2 => simp only [tA, tS, tZ]; rfl
        case d2_2 => exact fun _ _ _ h => h
        case e2_2 => (refine Or.inl ⟨by rfl, ?_⟩; intro w h; (try dsimp only at h); go_simp; all_goals with_reducible rfl)
        try simp only [Act.put, tI, tP, tQ]
        refine wpAnyH_take (i := 3) (oi := ?a2_3) (v := ?b2_3) ?c2_3 (by kernel_rfl) (by kernel_rfl) (by kernel_rfl) ?d2_3 ?e2_3 (by assumption) ?f2_3
        case c2_3 => simp only [tA, tS, tZ]; rfl
        case d2_3 => exact fun _ _ _ h => h
        case e2_3 => (refine Or.inl ⟨by rfl, ?_⟩; intro w h; (try dsimp only at h); go_simp; all_goals with_reducible rfl)
        try simp only [Act.put, tI, tP, tQ]
        refine wpAnyH_take (i := 4) (oi := ?a2_4) (v := ?b2_4) ?c2_4 (by kernel_rfl) (by kernel_rfl) (by kernel_rfl) ?d2_4 ?e2_4 (by assumption) ?f2_4
        case c2_4 => simp only [tA, tS, tZ]; rfl
        case d2_4 => exact fun _ _ _ h => h
        case e2_4 => (refine Or.inl ⟨by rfl, ?_⟩; intro w h; (try dsimp only at h); go_simp; all_goals with_reducible rfl)
        try simp only [Act.put, tI, tP, tQ]
        refine wpAnyH_take (i := 5) (oi := ?a2_5) (v := ?b2_5) ?c2_5 (by kernel_rfl) (by kernel_rfl) (by kernel_rfl) ?d2_5 ?e2_5 (by assumption) ?f2_5
        case c2_5 => simp only [tA, tS, tZ]; rfl
        case d2_5 => exact fun _ _ _ h => h
        case e2_5 => (refine Or.inl ⟨by rfl, ?_⟩; intro w h; (try dsimp only at h); go_simp; all_goals with_reducible rfl)
        try simp only [Act.put, tI, tP, tQ]
        refine wpAnyH_take (i := 6) (oi := ?a2_6) (v := ?b2_6) ?c2_6 (by kernel_rfl) (by kernel_rfl) (by kernel_rfl) ?d2_6 ?e2_6 (by assumption) ?f2_6
        case c2_6 => simp only [tA, tS, tZ]; rfl
        case d2_6 => exact fun _ _ _ h => h
        case e2_6 => (refine Or.inl ⟨by rfl, ?_⟩; intro w h; (try dsimp only at h); go_simp; all_goals with_reducible rfl)
        try simp only [Act.put, tI, tP, tQ]
        refine wpAnyH_ready (rs := [7]) (by kernel_rfl) (by simp) ?_
        refine AllReadyH.cons (o := ?or3_7) ?hor3_7 (fun K hK => ?kr3_7) AllReadyH.nil
        case hor3_7 => simp only [List.getElem?_toArray, List.getElem?_cons_succ, List.getElem?_cons_zero]; rfl
        go_simp
        have cc := cmAtMost_any _ q1 q2
        rw [E1.out] at cc
        refine cc.mono ?_
        rintro e2 wq ⟨rfl, hb⟩
        clear cc
        have LD := LD.later hb
        have q1 := q1.below hb
        have q2 := q2.below hb
        clear hb
        go_wp2_with fail
        refine hK.out _ _ ?_ (fun hHeld => ?_)
        · exact ⟨LD.cell 8 _ rfl, LD.cell 9 _ rfl⟩
        clear hK K
        try simp only [Act.put, List.setIfInBounds_toArray, List.set_cons_zero, List.set_cons_succ]
        refine wpAnyH_take (i := 8) (oi := ?a4_8) (v := ?b4_8) ?c4_8 (by kernel_rfl) (by kernel_rfl) (by kernel_rfl) ?d4_8 ?e4_8 (by assumption) ?f4_8
        case c4_8 => simp only [tA, tS, tZ]; rfl
        case d4_8 => exact fun _ _ _ h => h
        case e4_8 => (refine Or.inl ⟨by rfl, ?_⟩; intro w h; (try dsimp only at h); go_simp; all_goals with_reducible rfl)
        try simp only [Act.put, tI, tP, tQ]
        refine wpAnyH_take (i := 9) (oi := ?a4_9) (v := ?b4_9) ?c4_9 (by kernel_rfl) (by kernel_rfl) (by kernel_rfl) ?d4_9 ?e4_9 (by assumption) ?f4_9
        case c4_9 => simp only [tA, tS, tZ]; rfl
        case d4_9 => exact fun _ _ _ h => h
        case e4_9 => (refine Or.inl ⟨by rfl, ?_⟩; intro w h; (try dsimp only at h); go_simp; all_goals with_reducible rfl)
        try simp only [Act.put, tI, tP, tQ]
        refine wpAnyH_take (i := 10) (oi := ?a4_10) (v := ?b4_10) ?c4_10 (by kernel_rfl) (by kernel_rfl) (by kernel_rfl) ?d4_10 ?e4_10 (by assumption) ?f4_10
        case c4_10 => simp only [tA, tS, tZ]; rfl
        case d4_10 => exact fun _ _ _ h => h
        case e4_10 => (refine Or.inl ⟨by rfl, ?_⟩; intro w h; (try dsimp only at h); go_simp; all_goals with_reducible rfl)
        try simp only [Act.put, tI, tP, tQ]
        refine wpAnyH_take (i := 11) (oi := ?oir5_11) (v := undef) ?hir5_11 (by kernel_rfl) (by kernel_rfl) (by kernel_rfl) ?hqr5_11 ?hyr5_11 (by assumption) ?restr5_11
        case hir5_11 => simp only [List.getElem?_toArray, List.getElem?_cons_succ, List.getElem?_cons_zero]; rfl
        case hqr5_11 => exact fun _ _ _ h => h
        case hyr5_11 => exact Or.inr ⟨by rfl, rfl⟩
        try simp only [Act.put, List.setIfInBounds_toArray, List.set_cons_zero, List.set_cons_succ]
        refine wpAnyH_take (i := 12) (oi := ?oir5_12) (v := undef) ?hir5_12 (by kernel_rfl) (by kernel_rfl) (by kernel_rfl) ?hqr5_12 ?hyr5_12 (by assumption) ?restr5_12
        case hir5_12 => simp only [List.getElem?_toArray, List.getElem?_cons_succ, List.getElem?_cons_zero]; rfl
        case hqr5_12 => exact fun _ _ _ h => h
        case hyr5_12 => exact Or.inr ⟨by rfl, rfl⟩
        try simp only [Act.put, List.setIfInBounds_toArray, List.set_cons_zero, List.set_cons_succ]
        refine wpAnyH_take (i := 13) (oi := ?oir5_13) (v := undef) ?hir5_13 (by kernel_rfl) (by kernel_rfl) (by kernel_rfl) ?hqr5_13 ?hyr5_13 (by assumption) ?restr5_13
        case hir5_13 => simp only [List.getElem?_toArray, List.getElem?_cons_succ, List.getElem?_cons_zero]; rfl
        case hqr5_13 => exact fun _ _ _ h => h
        case hyr5_13 => exact Or.inr ⟨by rfl, rfl⟩
        try simp only [Act.put, List.setIfInBounds_toArray, List.set_cons_zero, List.set_cons_succ]
        refine wpAnyH_take (i := 14) (oi := ?oir5_14) (v := undef) ?hir5_14 (by kernel_rfl) (by kernel_rfl) (by kernel_rfl) ?hqr5_14 ?hyr5_14 (by assumption) ?restr5_14
        case hir5_14 => simp only [List.getElem?_toArray, List.getElem?_cons_succ, List.getElem?_cons_zero]; rfl
        case hqr5_14 => exact fun _ _ _ h => h
        case hyr5_14 => exact Or.inr ⟨by rfl, rfl⟩
        try simp only [Act.put, List.setIfInBounds_toArray, List.set_cons_zero, List.set_cons_succ]
        refine wpAnyH_take (i := 15) (oi := ?oir5_15) (v := undef) ?hir5_15 (by kernel_rfl) (by kernel_rfl) (by kernel_rfl) ?hqr5_15 ?hyr5_15 (by assumption) ?restr5_15
        case hir5_15 => simp only [List.getElem?_toArray, List.getElem?_cons_succ, List.getElem?_cons_zero]; rfl
        case hqr5_15 => exact fun _ _ _ h => h
        case hyr5_15 => exact Or.inr ⟨by rfl, rfl⟩
        try simp only [Act.put, List.setIfInBounds_toArray, List.set_cons_zero, List.set_cons_succ]
        refine wpAnyH_take (i := 16) (oi := ?a5_16) (v := ?b5_16) ?c5_16 (by kernel_rfl) (by kernel_rfl) (by kernel_rfl) ?d5_16 ?e5_16 (by assumption) ?f5_16
        case c5_16 => simp only [tA, tS, tZ]; rfl
        case d5_16 => exact fun _ _ _ h => h
        case e5_16 => (refine Or.inl ⟨by rfl, ?_⟩; intro w h; (try dsimp only at h); go_simp; all_goals with_reducible rfl)
        try simp only [Act.put, tI, tP, tQ]
        refine wpAnyH_take (i := 17) (oi := ?a5_17) (v := ?b5_17) ?c5_17 (by kernel_rfl) (by kernel_rfl) (by kernel_rfl) ?d5_17 ?e5_17 (by assumption) ?f5_17
        case c5_17 => simp only [tA, tS, tZ]; rfl
        case d5_17 => exact fun _ _ _ h => h
        case e5_17 => (refine Or.inl ⟨by rfl, ?_⟩; intro w h; (try dsimp only at h); go_simp; all_goals with_reducible rfl)
        try simp only [Act.put, tI, tP, tQ]
        refine wpAnyH_take (i := 18) (oi := ?oir5_18) (v := undef) ?hir5_18 (by kernel_rfl) (by kernel_rfl) (by kernel_rfl) ?hqr5_18 ?hyr5_18 (by assumption) ?restr5_18
        case hir5_18 => simp only [List.getElem?_toArray, List.getElem?_cons_succ, List.getElem?_cons_zero]; rfl
        case hqr5_18 => exact fun _ _ _ h => h
        case hyr5_18 => exact Or.inr ⟨by rfl, rfl⟩
        try simp only [Act.put, List.setIfInBounds_toArray, List.set_cons_zero, List.set_cons_succ]
        refine wpAnyH_take (i := 19) (oi := ?oir5_19) (v := undef) ?hir5_19 (by kernel_rfl) (by kernel_rfl) (by kernel_rfl) ?hqr5_19 ?hyr5_19 (by assumption) ?restr5_19
        case hir5_19 => simp only [List.getElem?_toArray, List.getElem?_cons_succ, List.getElem?_cons_zero]; rfl
        case hqr5_19 => exact fun _ _ _ h => h
        case hyr5_19 => exact Or.inr ⟨by rfl, rfl⟩
        try simp only [Act.put, List.setIfInBounds_toArray, List.set_cons_zero, List.set_cons_succ]
        refine wpAnyH_take (i := 20) (oi := ?oir5_20) (v := undef) ?hir5_20 (by kernel_rfl) (by kernel_rfl) (by kernel_rfl) ?hqr5_20 ?hyr5_20 (by assumption) ?restr5_20
        case hir5_20 => simp only [List.getElem?_toArray, List.getElem?_cons_succ, List.getElem?_cons_zero]; rfl
        case hqr5_20 => exact fun _ _ _ h => h
        case hyr5_20 => exact Or.inr ⟨by rfl, rfl⟩
        try simp only [Act.put, List.setIfInBounds_toArray, List.set_cons_zero, List.set_cons_succ]
        refine wpAnyH_take (i := 21) (oi := ?oir5_21) (v := undef) ?hir5_21 (by kernel_rfl) (by kernel_rfl) (by kernel_rfl) ?hqr5_21 ?hyr5_21 (by assumption) ?restr5_21
        case hir5_21 => simp only [List.getElem?_toArray, List.getElem?_cons_succ, List.getElem?_cons_zero]; rfl
        case hqr5_21 => exact fun _ _ _ h => h
        case hyr5_21 => exact Or.inr ⟨by rfl, rfl⟩
        try simp only [Act.put, List.setIfInBounds_toArray, List.set_cons_zero, List.set_cons_succ]
        refine wpAnyH_take (i := 22) (oi := ?oir5_22) (v := undef) ?hir5_22 (by kernel_rfl) (by kernel_rfl) (by kernel_rfl) ?hqr5_22 ?hyr5_22 (by assumption) ?restr5_22
        case hir5_22 => simp only [List.getElem?_toArray, List.getElem?_cons_succ, List.getElem?_cons_zero]; rfl
        case hqr5_22 => exact fun _ _ _ h => h
        case hyr5_22 => exact Or.inr ⟨by rfl, rfl⟩
        try simp only [Act.put, List.setIfInBounds_toArray, List.set_cons_zero, List.set_cons_succ]
        refine wpAnyH_take (i := 23) (oi := ?a5_23) (v := ?b5_23) ?c5_23 (by kernel_rfl) (by kernel_rfl) (by kernel_rfl) ?d5_23 ?e5_23 (by assumption) ?f5_23
        case c5_23 => simp only [tA, tS, tZ]; rfl
        case d5_23 => exact fun _ _ _ h => h
        case e5_23 => (refine Or.inl ⟨by rfl, ?_⟩; intro w h; (try dsimp only at h); go_simp; all_goals with_reducible rfl)
        try simp only [Act.put, tI, tP, tQ]
        refine wpAnyH_done (by kernel_rfl) ?_ _
        go_wp2_with fail
        go_ret
        exact ⟨by rw [e.out]; rfl, LD.below⟩
      cases c2 : leC [0, 0, 1] q.best
      case false =>
        have e := Lib.hid (show r = 8 by rw [HR.out]; exact chkC_no (fun h => by have := h.2.2.1; rw [c2] at this; simp at this))
        have E1 := Lib.hid c1
        have E2 := Lib.hid c2
        clear c1 c2
        go_upto_region 8 with fail
        have hb := (Below.refl W.heap.size W).drew
        have LD := LD.later hb
        have q1 := q1.below hb
        have q2 := q2.below hb
        clear hb
        refine wp_region_held_drew (S := (fun w' => w'.cell? ⟨w.heap.size, 8, none⟩ = some (.slice a n c) ∧ w'.cell? ⟨w.heap.size, 9, none⟩ = some (.slice b m d))) (by kernel_rfl) ?_ (fun hHeld => ?_)
        · exact ⟨LD.cell 8 _ rfl, LD.cell 9 _ rfl⟩
        generalize W.drew = WD at *
        refine wpAnyH_take (i := 0) (oi := ?a6_0) (v := ?b6_0) ?c6_0 (by kernel_rfl) (by kernel_rfl) (by kernel_rfl) ?d6_0 ?e6_0 (by assumption) ?f6_0
        case c6_0 => simp only [tA, tS, tZ]; rfl
        case d6_0 => exact fun _ _ _ h => h
        case e6_0 => (refine Or.inl ⟨by rfl, ?_⟩; intro w h; (try dsimp only at h); go_simp; all_goals with_reducible rfl)
        try simp only [Act.put, tI, tP, tQ]
        refine wpAnyH_take (i := 1) (oi := ?a6_1) (v := ?b6_1) ?c6_1 (by kernel_rfl) (by kernel_rfl) (by kernel_rfl) ?d6_1 ?e6_1 (by assumption) ?f6_1
        case c6_1 => simp only [tA, tS, tZ]; rfl
        case d6_1 => exact fun _ _ _ h => h
        case e6_1 => (refine Or.inl ⟨by rfl, ?_⟩; intro w h; (try dsimp only at h); go_simp; all_goals with_reducible rfl)
        try simp only [Act.put, tI, tP, tQ]
        refine wpAnyH_take (i := 2) (oi := ?a6_2) (v := ?b6_2) ?c6_2 (by kernel_rfl) (by kernel_rfl) (by kernel_rfl) ?d6_2 ?e6_2 (by assumption) ?f6_2
        case c6_2 => simp only [tA, tS, tZ]; rfl
        case d6_2 => exact fun _ _ _ h => h
        case e6_2 => (refine Or.inl ⟨by rfl, ?_⟩; intro w h; (try dsimp only at h); go_simp; all_goals with_reducible rfl)
        try simp only [Act.put, tI, tP, tQ]
        refine wpAnyH_take (i := 3) (oi := ?a6_3) (v := ?b6_3) ?c6_3 (by kernel_rfl) (by kernel_rfl) (by kernel_rfl) ?d6_3 ?e6_3 (by assumption) ?f6_3
        case c6_3 => simp only [tA, tS, tZ]; rfl
        case d6_3 => exact fun _ _ _ h => h
        case e6_3 => (refine Or.inl ⟨by rfl, ?_⟩; intro w h; (try dsimp only at h); go_simp; all_goals with_reducible rfl)
        try simp only [Act.put, tI, tP, tQ]
        refine wpAnyH_take (i := 4) (oi := ?a6_4) (v := ?b6_4) ?c6_4 (by kernel_rfl) (by kernel_rfl) (by kernel_rfl) ?d6_4 ?e6_4 (by assumption) ?f6_4
        case c6_4 => simp only [tA, tS, tZ]; rfl
        case d6_4 => exact fun _ _ _ h => h
        case e6_4 => (refine Or.inl ⟨by rfl, ?_⟩; intro w h; (try dsimp only at h); go_simp; all_goals with_reducible rfl)
        try simp only [Act.put, tI, tP, tQ]
        refine wpAnyH_take (i := 5) (oi := ?a6_5) (v := ?b6_5) ?c6_5 (by kernel_rfl) (by kernel_rfl) (by kernel_rfl) ?d6_5 ?e6_5 (by assumption) ?f6_5
        case c6_5 => simp only [tA, tS, tZ]; rfl
        case d6_5 => exact fun _ _ _ h => h
        case e6_5 => (refine Or.inl ⟨by rfl, ?_⟩; intro w h; (try dsimp only at h); go_simp; all_goals with_reducible rfl)
        try simp only [Act.put, tI, tP, tQ]
        refine wpAnyH_take (i := 6) (oi := ?a6_6) (v := ?b6_6) ?c6_6 (by kernel_rfl) (by kernel_rfl) (by kernel_rfl) ?d6_6 ?e6_6 (by assumption) ?f6_6
        case c6_6 => simp only [tA, tS, tZ]; rfl
        case d6_6 => exact fun _ _ _ h => h
        case e6_6 => (refine Or.inl ⟨by rfl, ?_⟩; intro w h; (try dsimp only at h); go_simp; all_goals with_reducible rfl)
        try simp only [Act.put, tI, tP, tQ]
        refine wpAnyH_ready (rs := [7]) (by kernel_rfl) (by simp) ?_
        refine AllReadyH.cons (o := ?or7_7) ?hor7_7 (fun K hK => ?kr7_7) AllReadyH.nil
        case hor7_7 => simp only [List.getElem?_toArray, List.getElem?_cons_succ, List.getElem?_cons_zero]; rfl
        go_simp
        have cc := cmAtMost_any _ q1 q2
        rw [E1.out] at cc
        refine cc.mono ?_
        rintro e2 wq ⟨rfl, hb⟩
        clear cc
        have LD := LD.later hb
        have q1 := q1.below hb
        have q2 := q2.below hb
        clear hb
        go_wp2_with fail
        refine hK.out _ _ ?_ (fun hHeld => ?_)
        · exact ⟨LD.cell 8 _ rfl, LD.cell 9 _ rfl⟩
        clear hK K
        try simp only [Act.put, List.setIfInBounds_toArray, List.set_cons_zero, List.set_cons_succ]
        refine wpAnyH_take (i := 8) (oi := ?a8_8) (v := ?b8_8) ?c8_8 (by kernel_rfl) (by kernel_rfl) (by kernel_rfl) ?d8_8 ?e8_8 (by assumption) ?f8_8
        case c8_8 => simp only [tA, tS, tZ]; rfl
        case d8_8 => exact fun _ _ _ h => h
        case e8_8 => (refine Or.inl ⟨by rfl, ?_⟩; intro w h; (try dsimp only at h); go_simp; all_goals with_reducible rfl)
        try simp only [Act.put, tI, tP, tQ]
        refine wpAnyH_take (i := 9) (oi := ?a8_9) (v := ?b8_9) ?c8_9 (by kernel_rfl) (by kernel_rfl) (by kernel_rfl) ?d8_9 ?e8_9 (by assumption) ?f8_9
        case c8_9 => simp only [tA, tS, tZ]; rfl
        case d8_9 => exact fun _ _ _ h => h
        case e8_9 => (refine Or.inl ⟨by rfl, ?_⟩; intro w h; (try dsimp only at h); go_simp; all_goals with_reducible rfl)
        try simp only [Act.put, tI, tP, tQ]
        refine wpAnyH_take (i := 10) (oi := ?a8_10) (v := ?b8_10) ?c8_10 (by kernel_rfl) (by kernel_rfl) (by kernel_rfl) ?d8_10 ?e8_10 (by assumption) ?f8_10
        case c8_10 => simp only [tA, tS, tZ]; rfl
        case d8_10 => exact fun _ _ _ h => h
        case e8_10 => (refine Or.inl ⟨by rfl, ?_⟩; intro w h; (try dsimp only at h); go_simp; all_goals with_reducible rfl)
        try simp only [Act.put, tI, tP, tQ]
        refine wpAnyH_take (i := 12) (oi := ?a9_12) (v := ?b9_12) ?c9_12 (by kernel_rfl) (by kernel_rfl) (by kernel_rfl) ?d9_12 ?e9_12 (by assumption) ?f9_12
        case c9_12 => simp only [tA, tS, tZ]; rfl
        case d9_12 => exact fun _ _ _ h => h
        case e9_12 => (refine Or.inl ⟨by rfl, ?_⟩; intro w h; (try dsimp only at h); go_simp; all_goals with_reducible rfl)
        try simp only [Act.put, tI, tP, tQ]
        refine wpAnyH_take (i := 13) (oi := ?a9_13) (v := ?b9_13) ?c9_13 (by kernel_rfl) (by kernel_rfl) (by kernel_rfl) ?d9_13 ?e9_13 (by assumption) ?f9_13
        case c9_13 => simp only [tA, tS, tZ]; rfl
        case d9_13 => exact fun _ _ _ h => h
        case e9_13 => (refine Or.inl ⟨by rfl, ?_⟩; intro w h; (try dsimp only at h); go_simp; all_goals with_reducible rfl)
        try simp only [Act.put, tI, tP, tQ]
        refine wpAnyH_ready (rs := [11]) (by kernel_rfl) (by simp) ?_
        refine AllReadyH.cons (o := ?or10_11) ?hor10_11 (fun K hK => ?kr10_11) AllReadyH.nil
        case hor10_11 => simp only [List.getElem?_toArray, List.getElem?_cons_succ, List.getElem?_cons_zero]; rfl
        go_simp
        refine (cmOne_any _).mono ?_
        rintro e2 wq ⟨a9, n9, c9, rfl, x9, hb⟩
        have LD := LD.later hb
        have q1 := q1.below hb
        have q2 := q2.below hb
        clear hb
        go_wp2_with fail
        refine hK.out _ _ ?_ (fun hHeld => ?_)
        · exact ⟨LD.cell 8 _ rfl, LD.cell 9 _ rfl⟩
        clear hK K
        try simp only [Act.put, List.setIfInBounds_toArray, List.set_cons_zero, List.set_cons_succ]
        refine wpAnyH_ready (rs := [14]) (by kernel_rfl) (by simp) ?_
        refine AllReadyH.cons (o := ?or11_14) ?hor11_14 (fun K hK => ?kr11_14) AllReadyH.nil
        case hor11_14 => simp only [List.getElem?_toArray, List.getElem?_cons_succ, List.getElem?_cons_zero]; rfl
        go_simp
        have cc := cmAtMost_any _ x9 q2
        rw [E2.out] at cc
        refine cc.mono ?_
        rintro e2 wq ⟨rfl, hb⟩
        clear cc
        have LD := LD.later hb
        have q1 := q1.below hb
        have q2 := q2.below hb
        clear x9
        clear hb
        go_wp2_with fail
        refine hK.out _ _ ?_ (fun hHeld => ?_)
        · exact ⟨LD.cell 8 _ rfl, LD.cell 9 _ rfl⟩
        clear hK K
        try simp only [Act.put, List.setIfInBounds_toArray, List.set_cons_zero, List.set_cons_succ]
        refine wpAnyH_take (i := 15) (oi := ?a12_15) (v := ?b12_15) ?c12_15 (by kernel_rfl) (by kernel_rfl) (by kernel_rfl) ?d12_15 ?e12_15 (by assumption) ?f12_15
        case c12_15 => simp only [tA, tS, tZ]; rfl
        case d12_15 => exact fun _ _ _ h => h
        case e12_15 => (refine Or.inl ⟨by rfl, ?_⟩; intro w h; (try dsimp only at h); go_simp; all_goals with_reducible rfl)
        try simp only [Act.put, tI, tP, tQ]
        refine wpAnyH_take (i := 16) (oi := ?a12_16) (v := ?b12_16) ?c12_16 (by kernel_rfl) (by kernel_rfl) (by kernel_rfl) ?d12_16 ?e12_16 (by assumption) ?f12_16
        case c12_16 => simp only [tA, tS, tZ]; rfl
        case d12_16 => exact fun _ _ _ h => h
        case e12_16 => (refine Or.inl ⟨by rfl, ?_⟩; intro w h; (try dsimp only at h); go_simp; all_goals with_reducible rfl)
        try simp only [Act.put, tI, tP, tQ]
        refine wpAnyH_take (i := 17) (oi := ?a12_17) (v := ?b12_17) ?c12_17 (by kernel_rfl) (by kernel_rfl) (by kernel_rfl) ?d12_17 ?e12_17 (by assumption) ?f12_17
        case c12_17 => simp only [tA, tS, tZ]; rfl
        case d12_17 => exact fun _ _ _ h => h
        case e12_17 => (refine Or.inl ⟨by rfl, ?_⟩; intro w h; (try dsimp only at h); go_simp; all_goals with_reducible rfl)
        try simp only [Act.put, tI, tP, tQ]
        refine wpAnyH_take (i := 18) (oi := ?oir13_18) (v := undef) ?hir13_18 (by kernel_rfl) (by kernel_rfl) (by kernel_rfl) ?hqr13_18 ?hyr13_18 (by assumption) ?restr13_18
        case hir13_18 => simp only [List.getElem?_toArray, List.getElem?_cons_succ, List.getElem?_cons_zero]; rfl
        case hqr13_18 => exact fun _ _ _ h => h
        case hyr13_18 => exact Or.inr ⟨by rfl, rfl⟩
        try simp only [Act.put, List.setIfInBounds_toArray, List.set_cons_zero, List.set_cons_succ]
        refine wpAnyH_take (i := 19) (oi := ?oir13_19) (v := undef) ?hir13_19 (by kernel_rfl) (by kernel_rfl) (by kernel_rfl) ?hqr13_19 ?hyr13_19 (by assumption) ?restr13_19
        case hir13_19 => simp only [List.getElem?_toArray, List.getElem?_cons_succ, List.getElem?_cons_zero]; rfl
        case hqr13_19 => exact fun _ _ _ h => h
        case hyr13_19 => exact Or.inr ⟨by rfl, rfl⟩
        try simp only [Act.put, List.setIfInBounds_toArray, List.set_cons_zero, List.set_cons_succ]
        refine wpAnyH_take (i := 20) (oi := ?oir13_20) (v := undef) ?hir13_20 (by kernel_rfl) (by kernel_rfl) (by kernel_rfl) ?hqr13_20 ?hyr13_20 (by assumption) ?restr13_20
        case hir13_20 => simp only [List.getElem?_toArray, List.getElem?_cons_succ, List.getElem?_cons_zero]; rfl
        case hqr13_20 => exact fun _ _ _ h => h
        case hyr13_20 => exact Or.inr ⟨by rfl, rfl⟩
        try simp only [Act.put, List.setIfInBounds_toArray, List.set_cons_zero, List.set_cons_succ]
        refine wpAnyH_take (i := 21) (oi := ?oir13_21) (v := undef) ?hir13_21 (by kernel_rfl) (by kernel_rfl) (by kernel_rfl) ?hqr13_21 ?hyr13_21 (by assumption) ?restr13_21
        case hir13_21 => simp only [List.getElem?_toArray, List.getElem?_cons_succ, List.getElem?_cons_zero]; rfl
        case hqr13_21 => exact fun _ _ _ h => h
        case hyr13_21 => exact Or.inr ⟨by rfl, rfl⟩
        try simp only [Act.put, List.setIfInBounds_toArray, List.set_cons_zero, List.set_cons_succ]
        refine wpAnyH_take (i := 22) (oi := ?oir13_22) (v := undef) ?hir13_22 (by kernel_rfl) (by kernel_rfl) (by kernel_rfl) ?hqr13_22 ?hyr13_22 (by assumption) ?restr13_22
        case hir13_22 => simp only [List.getElem?_toArray, List.getElem?_cons_succ, List.getElem?_cons_zero]; rfl
        case hqr13_22 => exact fun _ _ _ h => h
        case hyr13_22 => exact Or.inr ⟨by rfl, rfl⟩
        try simp only [Act.put, List.setIfInBounds_toArray, List.set_cons_zero, List.set_cons_succ]
        refine wpAnyH_take (i := 23) (oi := ?a13_23) (v := ?b13_23) ?c13_23 (by kernel_rfl) (by kernel_rfl) (by kernel_rfl) ?d13_23 ?e13_23 (by assumption) ?f13_23
        case c13_23 => simp only [tA, tS, tZ]; rfl
        case d13_23 => exact fun _ _ _ h => h
        case e13_23 => (refine Or.inl ⟨by rfl, ?_⟩; intro w h; (try dsimp only at h); go_simp; all_goals with_reducible rfl)
        try simp only [Act.put, tI, tP, tQ]
        refine wpAnyH_done (by kernel_rfl) ?_ _
        go_wp2_with fail
        go_ret
        exact ⟨by rw [e.out]; rfl, LD.below⟩
      cases c3 : leC q.best [0, 0, 0, 0, 1]
      case false =>
        have e := Lib.hid (show r = 8 by rw [HR.out]; exact chkC_no (fun h => by have := h.2.2.2; rw [c3] at this; simp at this))
        have E1 := Lib.hid c1
        have E2 := Lib.hid c2
        have E3 := Lib.hid c3
        clear c1 c2 c3
        go_upto_region 8 with fail
        have hb := (Below.refl W.heap.size W).drew
        have LD := LD.later hb
        have q1 := q1.below hb
        have q2 := q2.below hb
        clear hb
        refine wp_region_held_drew (S := (fun w' => w'.cell? ⟨w.heap.size, 8, none⟩ = some (.slice a n c) ∧ w'.cell? ⟨w.heap.size, 9, none⟩ = some (.slice b m d))) (by kernel_rfl) ?_ (fun hHeld => ?_)
        · exact ⟨LD.cell 8 _ rfl, LD.cell 9 _ rfl⟩
        generalize W.drew = WD at *
        refine wpAnyH_take (i := 0) (oi := ?a14_0) (v := ?b14_0) ?c14_0 (by kernel_rfl) (by kernel_rfl) (by kernel_rfl) ?d14_0 ?e14_0 (by assumption) ?f14_0
        case c14_0 => simp only [tA, tS, tZ]; rfl
        case d14_0 => exact fun _ _ _ h => h
        case e14_0 => (refine Or.inl ⟨by rfl, ?_⟩; intro w h; (try dsimp only at h); go_simp; all_goals with_reducible rfl)
        try simp only [Act.put, tI, tP, tQ]
        refine wpAnyH_take (i := 1) (oi := ?a14_1) (v := ?b14_1) ?c14_1 (by kernel_rfl) (by kernel_rfl) (by kernel_rfl) ?d14_1 ?e14_1 (by assumption) ?f14_1
        case c14_1 => simp only [tA, tS, tZ]; rfl
        case d14_1 => exact fun _ _ _ h => h
        case e14_1 => (refine Or.inl ⟨by rfl, ?_⟩; intro w h; (try dsimp only at h); go_simp; all_goals with_reducible rfl)
        try simp only [Act.put, tI, tP, tQ]
        refine wpAnyH_take (i := 2) (oi := ?a14_2) (v := ?b14_2) ?c14_2 (by kernel_rfl) (by kernel_rfl) (by kernel_rfl) ?d14_2 ?e14_2 (by assumption) ?f14_2
        case c14_2 => simp only [tA, tS, tZ]; rfl
        case d14_2 => exact fun _ _ _ h => h
        case e14_2 => (refine Or.inl ⟨by rfl, ?_⟩; intro w h; (try dsimp only at h); go_simp; all_goals with_reducible rfl)
        try simp only [Act.put, tI, tP, tQ]
        refine wpAnyH_take (i := 3) (oi := ?a14_3) (v := ?b14_3) ?c14_3 (by kernel_rfl) (by kernel_rfl) (by kernel_rfl) ?d14_3 ?e14_3 (by assumption) ?f14_3
        case c14_3 => simp only [tA, tS, tZ]; rfl
        case d14_3 => exact fun _ _ _ h => h
        case e14_3 => (refine Or.inl ⟨by rfl, ?_⟩; intro w h; (try dsimp only at h); go_simp; all_goals with_reducible rfl)
        try simp only [Act.put, tI, tP, tQ]
        refine wpAnyH_take (i := 4) (oi := ?a14_4) (v := ?b14_4) ?c14_4 (by kernel_rfl) (by kernel_rfl) (by kernel_rfl) ?d14_4 ?e14_4 (by assumption) ?f14_4
        case c14_4 => simp only [tA, tS, tZ]; rfl
        case d14_4 => exact fun _ _ _ h => h
        case e14_4 => (refine Or.inl ⟨by rfl, ?_⟩; intro w h; (try dsimp only at h); go_simp; all_goals with_reducible rfl)
        try simp only [Act.put, tI, tP, tQ]
        refine wpAnyH_take (i := 5) (oi := ?a14_5) (v := ?b14_5) ?c14_5 (by kernel_rfl) (by kernel_rfl) (by kernel_rfl) ?d14_5 ?e14_5 (by assumption) ?f14_5
        case c14_5 => simp only [tA, tS, tZ]; rfl
        case d14_5 => exact fun _ _ _ h => h
        case e14_5 => (refine Or.inl ⟨by rfl, ?_⟩; intro w h; (try dsimp only at h); go_simp; all_goals with_reducible rfl)
        try simp only [Act.put, tI, tP, tQ]
        refine wpAnyH_take (i := 6) (oi := ?a14_6) (v := ?b14_6) ?c14_6 (by kernel_rfl) (by kernel_rfl) (by kernel_rfl) ?d14_6 ?e14_6 (by assumption) ?f14_6
        case c14_6 => simp only [tA, tS, tZ]; rfl
        case d14_6 => exact fun _ _ _ h => h
        case e14_6 => (refine Or.inl ⟨by rfl, ?_⟩; intro w h; (try dsimp only at h); go_simp; all_goals with_reducible rfl)
        try simp only [Act.put, tI, tP, tQ]
        refine wpAnyH_ready (rs := [7]) (by kernel_rfl) (by simp) ?_
        refine AllReadyH.cons (o := ?or15_7) ?hor15_7 (fun K hK => ?kr15_7) AllReadyH.nil
        case hor15_7 => simp only [List.getElem?_toArray, List.getElem?_cons_succ, List.getElem?_cons_zero]; rfl
        go_simp
        have cc := cmAtMost_any _ q1 q2
        rw [E1.out] at cc
        refine cc.mono ?_
        rintro e2 wq ⟨rfl, hb⟩
        clear cc
        have LD := LD.later hb
        have q1 := q1.below hb
        have q2 := q2.below hb
        clear hb
        go_wp2_with fail
        refine hK.out _ _ ?_ (fun hHeld => ?_)
        · exact ⟨LD.cell 8 _ rfl, LD.cell 9 _ rfl⟩
        clear hK K
        try simp only [Act.put, List.setIfInBounds_toArray, List.set_cons_zero, List.set_cons_succ]
        refine wpAnyH_take (i := 8) (oi := ?a16_8) (v := ?b16_8) ?c16_8 (by kernel_rfl) (by kernel_rfl) (by kernel_rfl) ?d16_8 ?e16_8 (by assumption) ?f16_8
        case c16_8 => simp only [tA, tS, tZ]; rfl
        case d16_8 => exact fun _ _ _ h => h
        case e16_8 => (refine Or.inl ⟨by rfl, ?_⟩; intro w h; (try dsimp only at h); go_simp; all_goals with_reducible rfl)
        try simp only [Act.put, tI, tP, tQ]
        refine wpAnyH_take (i := 9) (oi := ?a16_9) (v := ?b16_9) ?c16_9 (by kernel_rfl) (by kernel_rfl) (by kernel_rfl) ?d16_9 ?e16_9 (by assumption) ?f16_9
        case c16_9 => simp only [tA, tS, tZ]; rfl
        case d16_9 => exact fun _ _ _ h => h
        case e16_9 => (refine Or.inl ⟨by rfl, ?_⟩; intro w h; (try dsimp only at h); go_simp; all_goals with_reducible rfl)
        try simp only [Act.put, tI, tP, tQ]
        refine wpAnyH_take (i := 10) (oi := ?a16_10) (v := ?b16_10) ?c16_10 (by kernel_rfl) (by kernel_rfl) (by kernel_rfl) ?d16_10 ?e16_10 (by assumption) ?f16_10
        case c16_10 => simp only [tA, tS, tZ]; rfl
        case d16_10 => exact fun _ _ _ h => h
        case e16_10 => (refine Or.inl ⟨by rfl, ?_⟩; intro w h; (try dsimp only at h); go_simp; all_goals with_reducible rfl)
        try simp only [Act.put, tI, tP, tQ]
        refine wpAnyH_take (i := 12) (oi := ?a17_12) (v := ?b17_12) ?c17_12 (by kernel_rfl) (by kernel_rfl) (by kernel_rfl) ?d17_12 ?e17_12 (by assumption) ?f17_12
        case c17_12 => simp only [tA, tS, tZ]; rfl
        case d17_12 => exact fun _ _ _ h => h
        case e17_12 => (refine Or.inl ⟨by rfl, ?_⟩; intro w h; (try dsimp only at h); go_simp; all_goals with_reducible rfl)
        try simp only [Act.put, tI, tP, tQ]
        refine wpAnyH_take (i := 13) (oi := ?a17_13) (v := ?b17_13) ?c17_13 (by kernel_rfl) (by kernel_rfl) (by kernel_rfl) ?d17_13 ?e17_13 (by assumption) ?f17_13
        case c17_13 => simp only [tA, tS, tZ]; rfl
        case d17_13 => exact fun _ _ _ h => h
        case e17_13 => (refine Or.inl ⟨by rfl, ?_⟩; intro w h; (try dsimp only at h); go_simp; all_goals with_reducible rfl)
        try simp only [Act.put, tI, tP, tQ]
        refine wpAnyH_ready (rs := [11]) (by kernel_rfl) (by simp) ?_
        refine AllReadyH.cons (o := ?or18_11) ?hor18_11 (fun K hK => ?kr18_11) AllReadyH.nil
        case hor18_11 => simp only [List.getElem?_toArray, List.getElem?_cons_succ, List.getElem?_cons_zero]; rfl
        go_simp
        refine (cmOne_any _).mono ?_
        rintro e2 wq ⟨a9, n9, c9, rfl, x9, hb⟩
        have LD := LD.later hb
        have q1 := q1.below hb
        have q2 := q2.below hb
        clear hb
        go_wp2_with fail
        refine hK.out _ _ ?_ (fun hHeld => ?_)
        · exact ⟨LD.cell 8 _ rfl, LD.cell 9 _ rfl⟩
        clear hK K
        try simp only [Act.put, List.setIfInBounds_toArray, List.set_cons_zero, List.set_cons_succ]
        refine wpAnyH_ready (rs := [14]) (by kernel_rfl) (by simp) ?_
        refine AllReadyH.cons (o := ?or19_14) ?hor19_14 (fun K hK => ?kr19_14) AllReadyH.nil
        case hor19_14 => simp only [List.getElem?_toArray, List.getElem?_cons_succ, List.getElem?_cons_zero]; rfl
        go_simp
        have cc := cmAtMost_any _ x9 q2
        rw [E2.out] at cc
        refine cc.mono ?_
        rintro e2 wq ⟨rfl, hb⟩
        clear cc
        have LD := LD.later hb
        have q1 := q1.below hb
        have q2 := q2.below hb
        clear x9
        clear hb
        go_wp2_with fail
        refine hK.out _ _ ?_ (fun hHeld => ?_)
        · exact ⟨LD.cell 8 _ rfl, LD.cell 9 _ rfl⟩
        clear hK K
        try simp only [Act.put, List.setIfInBounds_toArray, List.set_cons_zero, List.set_cons_succ]
        refine wpAnyH_take (i := 15) (oi := ?a20_15) (v := ?b20_15) ?c20_15 (by kernel_rfl) (by kernel_rfl) (by kernel_rfl) ?d20_15 ?e20_15 (by assumption) ?f20_15
        case c20_15 => simp only [tA, tS, tZ]; rfl
        case d20_15 => exact fun _ _ _ h => h
        case e20_15 => (refine Or.inl ⟨by rfl, ?_⟩; intro w h; (try dsimp only at h); go_simp; all_goals with_reducible rfl)
        try simp only [Act.put, tI, tP, tQ]
        refine wpAnyH_take (i := 16) (oi := ?a20_16) (v := ?b20_16) ?c20_16 (by kernel_rfl) (by kernel_rfl) (by kernel_rfl) ?d20_16 ?e20_16 (by assumption) ?f20_16
        case c20_16 => simp only [tA, tS, tZ]; rfl
        case d20_16 => exact fun _ _ _ h => h
        case e20_16 => (refine Or.inl ⟨by rfl, ?_⟩; intro w h; (try dsimp only at h); go_simp; all_goals with_reducible rfl)
        try simp only [Act.put, tI, tP, tQ]
        refine wpAnyH_take (i := 17) (oi := ?a20_17) (v := ?b20_17) ?c20_17 (by kernel_rfl) (by kernel_rfl) (by kernel_rfl) ?d20_17 ?e20_17 (by assumption) ?f20_17
        case c20_17 => simp only [tA, tS, tZ]; rfl
        case d20_17 => exact fun _ _ _ h => h
        case e20_17 => (refine Or.inl ⟨by rfl, ?_⟩; intro w h; (try dsimp only at h); go_simp; all_goals with_reducible rfl)
        try simp only [Act.put, tI, tP, tQ]
        refine wpAnyH_take (i := 18) (oi := ?a21_18) (v := ?b21_18) ?c21_18 (by kernel_rfl) (by kernel_rfl) (by kernel_rfl) ?d21_18 ?e21_18 (by assumption) ?f21_18
        case c21_18 => simp only [tA, tS, tZ]; rfl
        case d21_18 => exact fun _ _ _ h => h
        case e21_18 => (refine Or.inl ⟨by rfl, ?_⟩; intro w h; (try dsimp only at h); go_simp; all_goals with_reducible rfl)
        try simp only [Act.put, tI, tP, tQ]
        refine wpAnyH_take (i := 19) (oi := ?a21_19) (v := ?b21_19) ?c21_19 (by kernel_rfl) (by kernel_rfl) (by kernel_rfl) ?d21_19 ?e21_19 (by assumption) ?f21_19
        case c21_19 => simp only [tA, tS, tZ]; rfl
        case d21_19 => exact fun _ _ _ h => h
        case e21_19 => (refine Or.inl ⟨by rfl, ?_⟩; intro w h; (try dsimp only at h); go_simp; all_goals with_reducible rfl)
        try simp only [Act.put, tI, tP, tQ]
        refine wpAnyH_ready (rs := [20]) (by kernel_rfl) (by simp) ?_
        refine AllReadyH.cons (o := ?or22_20) ?hor22_20 (fun K hK => ?kr22_20) AllReadyH.nil
        case hor22_20 => simp only [List.getElem?_toArray, List.getElem?_cons_succ, List.getElem?_cons_zero]; rfl
        go_simp
        refine (cmMost_any _).mono ?_
        rintro e2 wq ⟨a9, n9, c9, rfl, x9, hb⟩
        have LD := LD.later hb
        have q1 := q1.below hb
        have q2 := q2.below hb
        clear hb
        go_wp2_with fail
        refine hK.out _ _ ?_ (fun hHeld => ?_)
        · exact ⟨LD.cell 8 _ rfl, LD.cell 9 _ rfl⟩
        clear hK K
        try simp only [Act.put, List.setIfInBounds_toArray, List.set_cons_zero, List.set_cons_succ]
        refine wpAnyH_ready (rs := [21]) (by kernel_rfl) (by simp) ?_
        refine AllReadyH.cons (o := ?or23_21) ?hor23_21 (fun K hK => ?kr23_21) AllReadyH.nil
        case hor23_21 => simp only [List.getElem?_toArray, List.getElem?_cons_succ, List.getElem?_cons_zero]; rfl
        go_simp
        have cc := cmAtMost_any _ q2 x9
        rw [E3.out] at cc
        refine cc.mono ?_
        rintro e2 wq ⟨rfl, hb⟩
        clear cc
        have LD := LD.later hb
        have q1 := q1.below hb
        have q2 := q2.below hb
        clear x9
        clear hb
        go_wp2_with fail
        refine hK.out _ _ ?_ (fun hHeld => ?_)
        · exact ⟨LD.cell 8 _ rfl, LD.cell 9 _ rfl⟩
        clear hK K
        try simp only [Act.put, List.setIfInBounds_toArray, List.set_cons_zero, List.set_cons_succ]
        refine wpAnyH_take (i := 22) (oi := ?a24_22) (v := ?b24_22) ?c24_22 (by kernel_rfl) (by kernel_rfl) (by kernel_rfl) ?d24_22 ?e24_22 (by assumption) ?f24_22
        case c24_22 => simp only [tA, tS, tZ]; rfl
        case d24_22 => exact fun _ _ _ h => h
        case e24_22 => (refine Or.inl ⟨by rfl, ?_⟩; intro w h; (try dsimp only at h); go_simp; all_goals with_reducible rfl)
        try simp only [Act.put, tI, tP, tQ]
        refine wpAnyH_take (i := 23) (oi := ?a24_23) (v := ?b24_23) ?c24_23 (by kernel_rfl) (by kernel_rfl) (by kernel_rfl) ?d24_23 ?e24_23 (by assumption) ?f24_23
        case c24_23 => simp only [tA, tS, tZ]; rfl
        case d24_23 => exact fun _ _ _ h => h
        case e24_23 => (refine Or.inl ⟨by rfl, ?_⟩; intro w h; (try dsimp only at h); go_simp; all_goals with_reducible rfl)
        try simp only [Act.put, tI, tP, tQ]
        refine wpAnyH_done (by kernel_rfl) ?_ _
        go_wp2_with fail
        go_ret
        exact ⟨by rw [e.out]; rfl, LD.below⟩
      have e := Lib.hid (show r = 0 by rw [HR.out]; exact chkC_yes ⟨HZ.out.symm, c1, c2, c3⟩)
      have E1 := Lib.hid c1
      have E2 := Lib.hid c2
      have E3 := Lib.hid c3
      clear c1 c2 c3
      go_upto_region 8 with fail
      have hb := (Below.refl W.heap.size W).drew
      have LD := LD.later hb
      have q1 := q1.below hb
      have q2 := q2.below hb
      clear hb
      refine wp_region_held_drew (S := (fun w' => w'.cell? ⟨w.heap.size, 8, none⟩ = some (.slice a n c) ∧ w'.cell? ⟨w.heap.size, 9, none⟩ = some (.slice b m d))) (by kernel_rfl) ?_ (fun hHeld => ?_)
      · exact ⟨LD.cell 8 _ rfl, LD.cell 9 _ rfl⟩
      generalize W.drew = WD at *
      refine wpAnyH_take (i := 0) (oi := ?a25_0) (v := ?b25_0) ?c25_0 (by kernel_rfl) (by kernel_rfl) (by kernel_rfl) ?d25_0 ?e25_0 (by assumption) ?f25_0
      case c25_0 => simp only [tA, tS, tZ]; rfl
      case d25_0 => exact fun _ _ _ h => h
      case e25_0 => (refine Or.inl ⟨by rfl, ?_⟩; intro w h; (try dsimp only at h); go_simp; all_goals with_reducible rfl)
      try simp only [Act.put, tI, tP, tQ]
      refine wpAnyH_take (i := 1) (oi := ?a25_1) (v := ?b25_1) ?c25_1 (by kernel_rfl) (by kernel_rfl) (by kernel_rfl) ?d25_1 ?e25_1 (by assumption) ?f25_1
      case c25_1 => simp only [tA, tS, tZ]; rfl
      case d25_1 => exact fun _ _ _ h => h
      case e25_1 => (refine Or.inl ⟨by rfl, ?_⟩; intro w h; (try dsimp only at h); go_simp; all_goals with_reducible rfl)
      try simp only [Act.put, tI, tP, tQ]
      refine wpAnyH_take (i := 2) (oi := ?a25_2) (v := ?b25_2) ?c25_2 (by kernel_rfl) (by kernel_rfl) (by kernel_rfl) ?d25_2 ?e25_2 (by assumption) ?f25_2
      case c25_2 => simp only [tA, tS, tZ]; rfl
      case d25_2 => exact fun _ _ _ h => h
      case e25_2 => (refine Or.inl ⟨by rfl, ?_⟩; intro w h; (try dsimp only at h); go_simp; all_goals with_reducible rfl)
      try simp only [Act.put, tI, tP, tQ]
      refine wpAnyH_take (i := 3) (oi := ?a25_3) (v := ?b25_3) ?c25_3 (by kernel_rfl) (by kernel_rfl) (by kernel_rfl) ?d25_3 ?e25_3 (by assumption) ?f25_3
      case c25_3 => simp only [tA, tS, tZ]; rfl
      case d25_3 => exact fun _ _ _ h => h
      case e25_3 => (refine Or.inl ⟨by rfl, ?_⟩; intro w h; (try dsimp only at h); go_simp; all_goals with_reducible rfl)
      try simp only [Act.put, tI, tP, tQ]
      refine wpAnyH_take (i := 4) (oi := ?a25_4) (v := ?b25_4) ?c25_4 (by kernel_rfl) (by kernel_rfl) (by kernel_rfl) ?d25_4 ?e25_4 (by assumption) ?f25_4
      case c25_4 => simp only [tA, tS, tZ]; rfl
      case d25_4 => exact fun _ _ _ h => h
      case e25_4 => (refine Or.inl ⟨by rfl, ?_⟩; intro w h; (try dsimp only at h); go_simp; all_goals with_reducible rfl)
      try simp only [Act.put, tI, tP, tQ]
      refine wpAnyH_take (i := 5) (oi := ?a25_5) (v := ?b25_5) ?c25_5 (by kernel_rfl) (by kernel_rfl) (by kernel_rfl) ?d25_5 ?e25_5 (by assumption) ?f25_5
      case c25_5 => simp only [tA, tS, tZ]; rfl
      case d25_5 => exact fun _ _ _ h => h
      case e25_5 => (refine Or.inl ⟨by rfl, ?_⟩; intro w h; (try dsimp only at h); go_simp; all_goals with_reducible rfl)
      try simp only [Act.put, tI, tP, tQ]
      refine wpAnyH_take (i := 6) (oi := ?a25_6) (v := ?b25_6) ?c25_6 (by kernel_rfl) (by kernel_rfl) (by kernel_rfl) ?d25_6 ?e25_6 (by assumption) ?f25_6
      case c25_6 => simp only [tA, tS, tZ]; rfl
      case d25_6 => exact fun _ _ _ h => h
      case e25_6 => (refine Or.inl ⟨by rfl, ?_⟩; intro w h; (try dsimp only at h); go_simp; all_goals with_reducible rfl)
      try simp only [Act.put, tI, tP, tQ]
      refine wpAnyH_ready (rs := [7]) (by kernel_rfl) (by simp) ?_
      refine AllReadyH.cons (o := ?or26_7) ?hor26_7 (fun K hK => ?kr26_7) AllReadyH.nil
      case hor26_7 => simp only [List.getElem?_toArray, List.getElem?_cons_succ, List.getElem?_cons_zero]; rfl
      go_simp
      have cc := cmAtMost_any _ q1 q2
      rw [E1.out] at cc
      refine cc.mono ?_
      rintro e2 wq ⟨rfl, hb⟩
      clear cc
      have LD := LD.later hb
      have q1 := q1.below hb
      have q2 := q2.below hb
      clear hb
      go_wp2_with fail
      refine hK.out _ _ ?_ (fun hHeld => ?_)
      · exact ⟨LD.cell 8 _ rfl, LD.cell 9 _ rfl⟩
      clear hK K
      try simp only [Act.put, List.setIfInBounds_toArray, List.set_cons_zero, List.set_cons_succ]
      refine wpAnyH_take (i := 8) (oi := ?a27_8) (v := ?b27_8) ?c27_8 (by kernel_rfl) (by kernel_rfl) (by kernel_rfl) ?d27_8 ?e27_8 (by assumption) ?f27_8
      case c27_8 => simp only [tA, tS, tZ]; rfl
      case d27_8 => exact fun _ _ _ h => h
      case e27_8 => (refine Or.inl ⟨by rfl, ?_⟩; intro w h; (try dsimp only at h); go_simp; all_goals with_reducible rfl)
      try simp only [Act.put, tI, tP, tQ]
      refine wpAnyH_take (i := 9) (oi := ?a27_9) (v := ?b27_9) ?c27_9 (by kernel_rfl) (by kernel_rfl) (by kernel_rfl) ?d27_9 ?e27_9 (by assumption) ?f27_9
      case c27_9 => simp only [tA, tS, tZ]; rfl
      case d27_9 => exact fun _ _ _ h => h
      case e27_9 => (refine Or.inl ⟨by rfl, ?_⟩; intro w h; (try dsimp only at h); go_simp; all_goals with_reducible rfl)
      try simp only [Act.put, tI, tP, tQ]
      refine wpAnyH_take (i := 10) (oi := ?a27_10) (v := ?b27_10) ?c27_10 (by kernel_rfl) (by kernel_rfl) (by kernel_rfl) ?d27_10 ?e27_10 (by assumption) ?f27_10
      case c27_10 => simp only [tA, tS, tZ]; rfl
      case d27_10 => exact fun _ _ _ h => h
      case e27_10 => (refine Or.inl ⟨by rfl, ?_⟩; intro w h; (try dsimp only at h); go_simp; all_goals with_reducible rfl)
      try simp only [Act.put, tI, tP, tQ]
      refine wpAnyH_take (i := 12) (oi := ?a28_12) (v := ?b28_12) ?c28_12 (by kernel_rfl) (by kernel_rfl) (by kernel_rfl) ?d28_12 ?e28_12 (by assumption) ?f28_12
      case c28_12 => simp only [tA, tS, tZ]; rfl
      case d28_12 => exact fun _ _ _ h => h
      case e28_12 => (refine Or.inl ⟨by rfl, ?_⟩; intro w h; (try dsimp only at h); go_simp; all_goals with_reducible rfl)
      try simp only [Act.put, tI, tP, tQ]
      refine wpAnyH_take (i := 13) (oi := ?a28_13) (v := ?b28_13) ?c28_13 (by kernel_rfl) (by kernel_rfl) (by kernel_rfl) ?d28_13 ?e28_13 (by assumption) ?f28_13
      case c28_13 => simp only [tA, tS, tZ]; rfl
      case d28_13 => exact fun _ _ _ h => h
      case e28_13 => (refine Or.inl ⟨by rfl, ?_⟩; intro w h; (try dsimp only at h); go_simp; all_goals with_reducible rfl)
      try simp only [Act.put, tI, tP, tQ]
      refine wpAnyH_ready (rs := [11]) (by kernel_rfl) (by simp) ?_
      refine AllReadyH.cons (o := ?or29_11) ?hor29_11 (fun K hK => ?kr29_11) AllReadyH.nil
      case hor29_11 => simp only [List.getElem?_toArray, List.getElem?_cons_succ, List.getElem?_cons_zero]; rfl
      go_simp
      refine (cmOne_any _).mono ?_
      rintro e2 wq ⟨a9, n9, c9, rfl, x9, hb⟩
      have LD := LD.later hb
      have q1 := q1.below hb
      have q2 := q2.below hb
      clear hb
      go_wp2_with fail
      refine hK.out _ _ ?_ (fun hHeld => ?_)
      · exact ⟨LD.cell 8 _ rfl, LD.cell 9 _ rfl⟩
      clear hK K
      try simp only [Act.put, List.setIfInBounds_toArray, List.set_cons_zero, List.set_cons_succ]
      refine wpAnyH_ready (rs := [14]) (by kernel_rfl) (by simp) ?_
      refine AllReadyH.cons (o := ?or30_14) ?hor30_14 (fun K hK => ?kr30_14) AllReadyH.nil
      case hor30_14 => simp only [List.getElem?_toArray, List.getElem?_cons_succ, List.getElem?_cons_zero]; rfl
      go_simp
      have cc := cmAtMost_any _ x9 q2
      rw [E2.out] at cc
      refine cc.mono ?_
      rintro e2 wq ⟨rfl, hb⟩
      clear cc
      have LD := LD.later hb
      have q1 := q1.below hb
      have q2 := q2.below hb
      clear x9
      clear hb
      go_wp2_with fail
      refine hK.out _ _ ?_ (fun hHeld => ?_)
      · exact ⟨LD.cell 8 _ rfl, LD.cell 9 _ rfl⟩
      clear hK K
      try simp only [Act.put, List.setIfInBounds_toArray, List.set_cons_zero, List.set_cons_succ]
      refine wpAnyH_take (i := 15) (oi := ?a31_15) (v := ?b31_15) ?c31_15 (by kernel_rfl) (by kernel_rfl) (by kernel_rfl) ?d31_15 ?e31_15 (by assumption) ?f31_15
      case c31_15 => simp only [tA, tS, tZ]; rfl
      case d31_15 => exact fun _ _ _ h => h
      case e31_15 => (refine Or.inl ⟨by rfl, ?_⟩; intro w h; (try dsimp only at h); go_simp; all_goals with_reducible rfl)
      try simp only [Act.put, tI, tP, tQ]
      refine wpAnyH_take (i := 16) (oi := ?a31_16) (v := ?b31_16) ?c31_16 (by kernel_rfl) (by kernel_rfl) (by kernel_rfl) ?d31_16 ?e31_16 (by assumption) ?f31_16
      case c31_16 => simp only [tA, tS, tZ]; rfl
      case d31_16 => exact fun _ _ _ h => h
      case e31_16 => (refine Or.inl ⟨by rfl, ?_⟩; intro w h; (try dsimp only at h); go_simp; all_goals with_reducible rfl)
      try simp only [Act.put, tI, tP, tQ]
      refine wpAnyH_take (i := 17) (oi := ?a31_17) (v := ?b31_17) ?c31_17 (by kernel_rfl) (by kernel_rfl) (by kernel_rfl) ?d31_17 ?e31_17 (by assumption) ?f31_17
      case c31_17 => simp only [tA, tS, tZ]; rfl
      case d31_17 => exact fun _ _ _ h => h
      case e31_17 => (refine Or.inl ⟨by rfl, ?_⟩; intro w h; (try dsimp only at h); go_simp; all_goals with_reducible rfl)
      try simp only [Act.put, tI, tP, tQ]
      refine wpAnyH_take (i := 18) (oi := ?a32_18) (v := ?b32_18) ?c32_18 (by kernel_rfl) (by kernel_rfl) (by kernel_rfl) ?d32_18 ?e32_18 (by assumption) ?f32_18
      case c32_18 => simp only [tA, tS, tZ]; rfl
      case d32_18 => exact fun _ _ _ h => h
      case e32_18 => (refine Or.inl ⟨by rfl, ?_⟩; intro w h; (try dsimp only at h); go_simp; all_goals with_reducible rfl)
      try simp only [Act.put, tI, tP, tQ]
      refine wpAnyH_take (i := 19) (oi := ?a32_19) (v := ?b32_19) ?c32_19 (by kernel_rfl) (by kernel_rfl) (by kernel_rfl) ?d32_19 ?e32_19 (by assumption) ?f32_19
      case c32_19 => simp only [tA, tS, tZ]; rfl
      case d32_19 => exact fun _ _ _ h => h
      case e32_19 => (refine Or.inl ⟨by rfl, ?_⟩; intro w h; (try dsimp only at h); go_simp; all_goals with_reducible rfl)
      try simp only [Act.put, tI, tP, tQ]
      refine wpAnyH_ready (rs := [20]) (by kernel_rfl) (by simp) ?_
      refine AllReadyH.cons (o := ?or33_20) ?hor33_20 (fun K hK => ?kr33_20) AllReadyH.nil
      case hor33_20 => simp only [List.getElem?_toArray, List.getElem?_cons_succ, List.getElem?_cons_zero]; rfl
      go_simp
      refine (cmMost_any _).mono ?_
      rintro e2 wq ⟨a9, n9, c9, rfl, x9, hb⟩
      have LD := LD.later hb
      have q1 := q1.below hb
      have q2 := q2.below hb
      clear hb
      go_wp2_with fail
      refine hK.out _ _ ?_ (fun hHeld => ?_)
      · exact ⟨LD.cell 8 _ rfl, LD.cell 9 _ rfl⟩
      clear hK K
      try simp only [Act.put, List.setIfInBounds_toArray, List.set_cons_zero, List.set_cons_succ]
      refine wpAnyH_ready (rs := [21]) (by kernel_rfl) (by simp) ?_
      refine AllReadyH.cons (o := ?or34_21) ?hor34_21 (fun K hK => ?kr34_21) AllReadyH.nil
      case hor34_21 => simp only [List.getElem?_toArray, List.getElem?_cons_succ, List.getElem?_cons_zero]; rfl
      go_simp
      have cc := cmAtMost_any _ q2 x9
      rw [E3.out] at cc
      refine cc.mono ?_
      rintro e2 wq ⟨rfl, hb⟩
      clear cc
      have LD := LD.later hb
      have q1 := q1.below hb
      have q2 := q2.below hb
      clear x9
      clear hb
      go_wp2_with fail
      refine hK.out _ _ ?_ (fun hHeld => ?_)
      · exact ⟨LD.cell 8 _ rfl, LD.cell 9 _ rfl⟩
      clear hK K
      try simp only [Act.put, List.setIfInBounds_toArray, List.set_cons_zero, List.set_cons_succ]
      refine wpAnyH_take (i := 22) (oi := ?a35_22) (v := ?b35_22) ?c35_22 (by kernel_rfl) (by kernel_rfl) (by kernel_rfl) ?d35_22 ?e35_22 (by assumption) ?f35_22
      case c35_22 => simp only [tA, tS, tZ]; rfl
      case d35_22 => exact fun _ _ _ h => h
      case e35_22 => (refine Or.inl ⟨by rfl, ?_⟩; intro w h; (try dsimp only at h); go_simp; all_goals with_reducible rfl)
      try simp only [Act.put, tI, tP, tQ]
      refine wpAnyH_take (i := 23) (oi := ?a35_23) (v := ?b35_23) ?c35_23 (by kernel_rfl) (by kernel_rfl) (by kernel_rfl) ?d35_23 ?e35_23 (by assumption) ?f35_23
      case c35_23 => simp only [tA, tS, tZ]; rfl
      case d35_23 => exact fun _ _ _ h => h
      case e35_23 => (refine Or.inl ⟨by rfl, ?_⟩; intro w h; (try dsimp only at h); go_simp; all_goals with_reducible rfl)
      try simp only [Act.put, tI, tP, tQ]
      refine wpAnyH_done (by kernel_rfl) ?_ _
      go_wp2_with fail
      go_ret
      exact ⟨by rw [e.out]; rfl, LD.below⟩

end Go.Proofs.Ytmkcdlhhbnakiaa
