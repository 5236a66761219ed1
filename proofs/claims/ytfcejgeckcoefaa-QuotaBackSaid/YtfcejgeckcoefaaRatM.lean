/- Rational numbers: Mul. Printed by gen_ratm.py. -/
import Derived.Test.YtfcejgeckcoefaaPRow
namespace Go.Proofs.Ytfcejgeckcoefaa
open Go.RowKit Go.Suf
set_option linter.unusedVariables false
set_option linter.unusedSimpArgs false

set_option maxRecDepth 100000 in
set_option maxHeartbeats 1000000 in
theorem ratMul_any (w : World) {g1 g2 : Bool} {a b a' b' : Option Addr} {n m c d n' m' c' d' : Nat} {xs ys xs' ys' : List Nat}
    (h1 : Rd .u32 w a n c xs) (h2 : Rd .u32 w b m d ys) (h3 : Rd .u32 w a' n' c' xs') (h4 : Rd .u32 w b' m' d' ys') :
    Calls Try.prog 29 #[ratV g1 a n c b m d, ratV g2 a' n' c' b' m' d'] w (RetQE w (mulV ⟨g1, xs, ys⟩ ⟨g2, xs', ys'⟩)) := by
  obtain ⟨r, hr⟩ : ∃ r, r = mulV ⟨g1, xs, ys⟩ ⟨g2, xs', ys'⟩ := ⟨_, rfl⟩
  rw [← hr]
  have hr' : r = if chkV ⟨g1, xs, ys⟩ = 0 ∧ chkV ⟨g2, xs', ys'⟩ = 0 then mulQ (toQ ⟨g1, xs, ys⟩) (toQ ⟨g2, xs', ys'⟩) else (zeroV, 8) := hr
  have HR := Lib.hid hr'
  clear hr hr'
  obtain ⟨L1, L2, L3, L4⟩ := laid_four w #[.bool g1, .slice a n c, .slice b m d] #[.bool g2, .slice a' n' c', .slice b' m' d'] #[.bool false, .slice none 0 0, .slice none 0 0] #[.bool g1, .slice a n c, .slice b m d, .bool g2, .slice a' n' c', .slice b' m' d']
  have k0 := L1.cell 0 _ rfl
  have k1 := L1.cell 1 _ rfl
  have k2 := L1.cell 2 _ rfl
  have k3 := L2.cell 0 _ rfl
  have k4 := L2.cell 1 _ rfl
  have k5 := L2.cell 2 _ rfl
  have p0 := L4.cell 0 _ rfl
  have p1 := L4.cell 1 _ rfl
  have p2 := L4.cell 2 _ rfl
  have p3 := L4.cell 3 _ rfl
  have p4 := L4.cell 4 _ rfl
  have p5 := L4.cell 5 _ rfl
  go_enter Try.func29, Try.ntmps29
  go_wp2_with first | refine wpList_store_new rfl 63 _ _ rfl atPair _ _ _ rfl rfl rfl rfl (pair_one _ _ _ _ _ _ _ _ _ _ _ _ _ _) ?_
  have cc := does_product _ (mulQ (toQ ⟨g1, xs, ys⟩) (toQ ⟨g2, xs', ys'⟩)) (h1.below L4.below) (h2.below L4.below) (h3.below L4.below) (h4.below L4.below) (by
    intro c1 c2 w' hw
    obtain ⟨p, e1, f1⟩ := chkV_get (x := ⟨g1, xs, ys⟩) h1.bd h2.bd c1
    obtain ⟨q, e2, f2⟩ := chkV_get (x := ⟨g2, xs', ys'⟩) h3.bd h4.bd c2
    rw [e1, e2, toQ_ofQ, toQ_ofQ, ← prodV_eq]
    unfold ofQ at e1 e2
    injection e1 with e1 e3 e4
    injection e2 with e2 e5 e6
    subst e1 e3 e4 e2 e5 e6
    have hB := L4.below.trans (hw.mono L4.below.size)
    exact product_any w' _ _ (h1.below hB) (h2.below hB) (h3.below hB) (h4.below hB) f1.1 f1.2 f2.1 f2.2 p.den_nz q.den_nz)
  rw [← HR.out] at cc
  refine cc.mono ?_
  rintro e2 w3 ⟨ap, np, cp, aq, nq, cq, rfl, hp, hq, hb⟩
  clear cc
  have R3 := L3.later hb
  have row := R3.row
  have HB := Lib.hid (fun cs => below_row R3.below R3.lo cs)
  have fin := Lib.hid (fun cs => (⟨rd_rowset hp row (rat_noint _ _ _ _ _ _ _) cs, rd_rowset hq row (rat_noint _ _ _ _ _ _ _) cs⟩ : _ ∧ _))
  clear hb k0 k1 k2 k3 k4 k5 p0 p1 p2 p3 p4 p5
  go_wp2_with (refine wpList_store_whole rfl 27 _ _ rfl atRat _ _ _ row rfl rfl rfl rfl (rat_one _ _ _ _ _ _ _) ?_)
  refine bodyPost_ret (results_cell_two rfl _ _ _ _ _ _ _ rfl (setRow_heap _ _ _ _ _ _ row) Try.underlying27 rfl (by kernel_rfl) _ rfl) rfl ?_
  exact ⟨ap, np, cp, aq, nq, cq, rfl, (fin.out _).1, (fin.out _).2, HB.out _⟩

end Go.Proofs.Ytfcejgeckcoefaa
