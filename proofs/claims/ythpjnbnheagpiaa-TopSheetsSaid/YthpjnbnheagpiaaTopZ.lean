/- Records: Tally of valid ones. Conditions: valid records of at most three batches. Printed by gen_topz.py. -/
import Derived.Test.YthpjnbnheagpiaaTopY
namespace Go.Proofs.Ythpjnbnheagpiaa
open Go.RowKit Go.Suf Go.Shelf
set_option linter.unusedVariables false
set_option linter.unusedSimpArgs false
attribute [local go_sem] Oper.semAt_some

theorem ballots_any (w : World) (a : Option Addr) (n c : Nat) :
    Calls Try.prog 31 #[.slice a n c] w fun e w' => e = .returned (.func (.func 58) #[] #[.pointer (some ⟨w.heap.size, 0, none⟩)]) ∧ w' = w.alloc (.cells #[.slice a n c] 33) := by
  go_enter Try.func31, Try.ntmps31
  go_wp2
  go_ret
  exact ⟨rfl, rfl⟩
theorem ballots_stops (w wR : World) (kd : Nat) (cn : Int) {a_l : Option Addr} {n_l c_l : Nat} {l : List CQ} (h_l : RdC w a_l n_l c_l l) (hW : RecW kd cn l) (nn gl : Nat) (hR : Below w.heap.size w wR) (hg : wR.cell? ⟨gl, 0, none⟩ = some (.slice a_l n_l c_l)) :
    SeqStopsK Fence.wide nn Try.prog 58 #[.pointer (some ⟨gl, 0, none⟩)] (fun x : BV w kd cn => encBV x) (Below w.heap.size) (fun xs => xs.map BV.ms = allB l) (fun pre => ∃ r, pre.map BV.ms ++ r = allB l) 1000 wR := fun L J Jx W hW' hJ _ hY h0 =>
  ballots1_in w kd cn h_l hW nn L gl J Jx (fun pre W o hj => hJ pre W _ none hj (World.grownBy_alloc W o none) (fun r e => by cases e)) hY W (hR.trans (hW'.mono hR.size)) (cell_below hW' hg) h0
/-- Blocks of cells lie as they lay. -/
def CellsK (W W' : World) : Prop := ∀ (k : Nat) (c : Array Value) (t : TypeId), W.heap[k]? = some (.cells c t (0, 0)) → W'.heap[k]? = some (.cells c t (0, 0))
theorem cellsK_grown {W W' : World} {row : Option Nat} (hg : W.grownBy W' row) (hr : ∀ r, row = some r → ∃ o : Obj, W.heap[r]? = some o ∧ o.isCells = false) : CellsK W W' := fun k c t h => by
  refine (hg.block k (Array.getElem?_eq_some_iff.1 h).1 (fun e => ?_)).trans h
  obtain ⟨o, ho, hc⟩ := hr k e.symm
  rw [h] at ho
  cases ho
  cases hc
theorem own_cellsK {W W' : World} {base : Nat} {e : TypeId} {size n : Nat} {v : Value} {xs : List Value} (h : W.ownsRow base e size v n xs) (hk : CellsK W W') : W'.ownsRow base e size v n xs := by
  refine ⟨h.1, ?_⟩
  rcases h.2 with h2 | ⟨g, c, cur, hv, hb, hh, r⟩
  · exact .inl h2
  · exact .inr ⟨g, c, cur, hv, hb, hk _ _ _ hh, r⟩
theorem rowO.cellsK {base : Nat} {w w' : World} {x : RwQ} {u v : Value} (h : rowO base w x u v) (hk : CellsK w w') : rowO base w' x u v := by
  obtain ⟨h1, h2, a, n, c, h3, h4⟩ := h
  exact ⟨h1, h2, a, n, c, h3, h4.len, own_cellsK h4.own hk, h4.bd⟩
theorem ow2_cellsK {base : Nat} {w w' : World} {a : Option Addr} {n c : Nat} {l : List RwQ} (h : Ow2 (rowO base w) 92 base w a n c l) (hk : CellsK w w') : Ow2 (rowO base w') 92 base w' a n c l := by
  obtain ⟨cs, h1, h2, h3⟩ := h.own
  exact ⟨h.len, cs, h1, own_cellsK h2 hk, fun i x q hx hq => ⟨(h3 i x q hx hq).1.cellsK hk, (h3 i x q hx hq).2⟩⟩
abbrev prfC (cn : Int) (kd : Nat) (a : Option Addr) (n c : Nat) : Array Value := #[.int .i64 cn, .int .u8 ((kd : Nat) : Int), .slice a n c]
/-- Between two rounds. -/
def TalI (w : World) (gp ge kd : Nat) (cn : Int) (pre : List (BV w kd cn)) (W : World) : Prop :=
  Below w.heap.size w W ∧ (rowsL (pre.map BV.ms)).length ≤ 64 ∧ ∃ a c, W.heap[gp]? = some (.cells (prfC cn kd a (rowsL (pre.map BV.ms)).length c) 51 (0, 0)) ∧ W.heap[ge]? = some (.cells #[.int .i64 0] 29 (0, 0)) ∧
    Ow2 (rowO w.heap.size W) 92 w.heap.size W a (rowsL (pre.map BV.ms)).length c (rowsL (pre.map BV.ms))
/-- Behind a round that has left. -/
def TalX (w : World) (gp ge kd : Nat) (cn : Int) (c : Code) (pre : List (BV w kd cn)) (W : World) : Prop :=
  c = .ret ∧ Below w.heap.size w W ∧ 64 < (rowsL (pre.map BV.ms)).length ∧ W.heap[gp]? = some (.cells #[.int .i64 0, .int .u8 0, .slice none 0 0] 51 (0, 0)) ∧ W.heap[ge]? = some (.cells #[.int .i64 9] 29 (0, 0))
theorem below_grownC {n₀ B : Nat} {w W W' : World} {row : Option Nat} (h : Below n₀ w W) (hg : W.grownBy W' row) (hr : ∀ r, row = some r → B ≤ r ∧ ∃ o : Obj, W.heap[r]? = some o ∧ o.isCells = false) (hn : n₀ ≤ w.heap.size) (hB : n₀ ≤ B) : Below n₀ w W' :=
  (ownFrom_below (β := Unit) hn hB) () W W' row h hg hr
theorem talI_own {w : World} {gp ge kd B : Nat} {cn : Int} (hB : w.heap.size ≤ B) : OwnFrom B (TalI w gp ge kd cn) := fun pre W W' row h hg hr => by
  obtain ⟨h1, h2, a, c, h3, h4, h5⟩ := h
  have hk := cellsK_grown hg fun r e => (hr r e).2
  exact ⟨below_grownC h1 hg hr (Nat.le_refl _) hB, h2, a, c, hk _ _ _ h3, hk _ _ _ h4, ow2_cellsK h5 hk⟩
theorem talX_own {w : World} {gp ge kd B : Nat} {cn : Int} (hB : w.heap.size ≤ B) (c : Code) : OwnFrom B (TalX w gp ge kd cn c) := fun pre W W' row h hg hr => by
  obtain ⟨h0, h1, h2, h3, h4⟩ := h
  have hk := cellsK_grown hg fun r e => (hr r e).2
  exact ⟨h0, below_grownC h1 hg hr (Nat.le_refl _) hB, h2, hk _ _ _ h3, hk _ _ _ h4⟩
/-- What Tally answers. -/
def RetTy (w : World) (cn : Int) (kd : Nat) (rs : List RwQ) : Ending → World → Prop := fun e w' =>
  ((rs.length ≤ 64 ∧ ∃ a c, e = .returned (.tuple #[.agg #[.int .i64 cn, .int .u8 ((kd : Nat) : Int), .slice a rs.length c], .int .i64 0]) ∧ RdR w' a rs.length c rs) ∨
   (64 < rs.length ∧ e = .returned (.tuple #[.agg #[.int .i64 0, .int .u8 0, .slice none 0 0], .int .i64 9]))) ∧ Below w.heap.size w w'
theorem keepsFrom_of {B : Nat} {W W' : World} (h : Below W.heap.size W W') : KeepsFrom B W W' := ⟨h.size, fun k o _ hk _ => (h.block k (Array.getElem?_eq_some_iff.1 hk).1).trans hk⟩
end Go.Proofs.Ythpjnbnheagpiaa
namespace Go
open Go.RowKit Go.Suf Go.Shelf
open Go.Proofs.Ythpjnbnheagpiaa
set_option linter.unusedVariables false
set_option linter.unusedSimpArgs false
attribute [local go_sem] Oper.semAt_some
theorem KeepsFrom.setRowC {B g : Nat} {W W' : World} {cs : Array Value} {t : TypeId} (h : KeepsFrom B W W') (hg : W'.heap[g]? = some (.cells cs t (0, 0))) (cs' : Array Value) : KeepsFrom B W (W'.setRow g cs') := by
  refine ⟨by rw [setRow_size]; exact h.size, fun k o hB hk ho => ?_⟩
  have h1 := h.same k o hB hk ho
  refine (setRow_other _ _ _ _ (fun e => ?_)).trans h1
  subst e
  rw [hg] at h1
  cases h1
  cases ho
theorem KeepsFrom.setCellC {B g i : Nat} {W W' : World} {cs : Array Value} {t : TypeId} (h : KeepsFrom B W W') (hg : W'.heap[g]? = some (.cells cs t (0, 0))) (v : Value) : KeepsFrom B W (W'.setCell ⟨g, i, none⟩ v) := by
  refine ⟨by have := h.size; simpa [World.setCell] using this, fun k o hB hk ho => ?_⟩
  have h1 := h.same k o hB hk ho
  refine (heap_setCell_other _ ⟨g, i, none⟩ k v (fun e => ?_)).trans h1
  have e2 : k = g := e
  subst e2
  rw [hg] at h1
  cases h1
  cases ho
end Go
namespace Go.Proofs.Ythpjnbnheagpiaa
open Go.RowKit Go.Suf Go.Shelf
set_option linter.unusedVariables false
set_option linter.unusedSimpArgs false
attribute [local go_sem] Oper.semAt_some
theorem cellsK_put {W : World} {D : Nat} {o o' : Obj} (h : W.heap[D]? = some o) (ho : o.isCells = false) : CellsK W (W.putObj D o') := fun k c t hk => by
  by_cases e : k = D
  · subst e
    rw [h] at hk
    cases hk
    cases ho
  · exact (World.putObj_heap_other e).trans hk
theorem results_cells2 {P : Program} {fn : Func} {p u : Tmp} {ty ty2 : TypeId} (h : fn.results = #[.cell p ty, .cell u ty2]) (tmps : Array Value) (w : World) (g g2 : Nat) (t : TypeId) (cs : Array Value) (fr : Nat × Nat) (d : TypeDesc)
    (hp : tmps.getD p undef = .pointer (some ⟨g, 0, none⟩)) (hg : w.heap[g]? = some (.cells cs t fr))
    (hu : P.underlying ty = some d) (hd : (match d with | .struct _ | .array _ _ => true | _ => false) = true) (hi : (P.info? ty).map (·.size) = some cs.size) (v : Value) (hp2 : tmps.getD u undef = .pointer (some ⟨g2, 0, none⟩)) (hv : (loadVar ty2 ⟨g2, 0, none⟩).run P w = .ok v w) :
    (results fn tmps).run P w = .ok (.tuple #[.agg cs, v]) w := by
  have hp' : tmps[p]?.getD undef = .pointer (some ⟨g, 0, none⟩) := by simpa using hp
  have hv' : tmps[u]?.getD undef = .pointer (some ⟨g2, 0, none⟩) := by simpa using hp2
  simp [results, h, hp', hv', hv, asAddr, run_loadVar_row w g t ty cs fr d hg hu hd hi, Sem.run_bind, Result.andThen]
theorem load_err (W : World) (g : Nat) (k : Int) (h : W.cell? ⟨g, 0, none⟩ = some (.int .i64 k)) : (loadVar 29 ⟨g, 0, none⟩).run Try.prog W = .ok (.int .i64 k) W := by
  simp [loadVar, go_sem, h]
theorem opIn_store_whole {F : Fence} {n : Nat} {P : Program} {o : Oper} {a : Act} {w : World} {K : Act → World → Prop} {Q : Exit → Act → World → Prop} (t : TypeId) (x y : Operand) (ho : o.op = .store t x y) {m : Nat} (A : AT P t m)
    {b : Nat} (cur vs : Array Value) (e : TypeId) (hg : w.heap[b]? = some (.cells cur e (0, 0))) (hx : a.eval x = .pointer (some ⟨b, 0, none⟩)) (hy : a.eval y = .agg vs) (hm : vs.size = m) (hcur : cur.size = m) (h1 : ∀ u ∈ vs.toList, u.oneCell' = true)
    (h : K (a.put o.dst undef) (w.setRow b vs)) : o.wpIn F n P a w K Q := by
  have hst := run_storeCells_at P b 0 e vs.toList 0 cur w hg (by simp; omega) h1
  simp only [Nat.add_zero, List.take_zero, List.nil_append, Array.length_toList] at hst
  rw [List.drop_eq_nil_of_le (by simp; omega), List.append_nil, Array.toArray_toList] at hst
  unfold Oper.wpIn
  refine ⟨?_, ?_⟩
  · simp [Oper.about, ho]
  · rw [Oper.semAt_plain F _ _ (by rw [ho]; intro c hc'; cases hc')]
    unfold execOp
    simp only [ho, hx, hy, Instr.storeAt, Instr.sureAddr, Sem.run_bind, Sem.run_pure, Result.andThen_ok, storeVar, A.sizeOf, Value.cells, hm]
    simp only [ne_eq, not_true_eq_false, if_false, hst]
    exact h
set_option maxRecDepth 100000 in
set_option maxHeartbeats 8000000 in
theorem Tally_any (w : World) (cn : Int) (hc1 : 1 ≤ cn) (hc2 : cn ≤ 10) (kd : Nat) (hk1 : 1 ≤ kd) (hk2 : kd ≤ 3) {a_l : Option Addr} {n_l c_l : Nat} {l : List CQ} (h_l : RdC w a_l n_l c_l l) (hW : RecW kd cn l) : Calls Try.prog 11 #[.slice a_l n_l c_l, .int .i64 cn, .int .u8 ((kd : Nat) : Int)] w (RetTy w cn kd (rowsL (allB l))) := by
  have HRC := Lib.hid h_l
  have HW := Lib.hid hW
  have hkd : kd < 256 := by omega
  have B0 : Below w.heap.size w w := Below.refl _ _
  have h_l_0 := h_l
  clear hW
  refine (callsIn_wide (n := 9)).1 ?_
  refine callsIn_of_wp_marks Try.func11 rfl trivial ?_ rfl
  simp only [Try.ntmps11, List.size_toArray, List.length_cons, List.length_nil, Nat.reduceAdd, Nat.reduceSub, Array.replicate_succ, Array.replicate_zero, List.push_toArray, List.append_toArray, List.nil_append, List.cons_append]
  refine wpIn_wide.2 (wp_noPanic ?_)
  have hb := below_al w (.cells #[.int .i64 0, .int .u8 0, .slice none 0 0] 51)
  have B1 := B0.trans (hb.mono B0.size)
  have h_l_1 := h_l_0.below batE_lasts hb
  clear hb B0 h_l_0
  have h_p_1 := PRow.new 51 w #[.int .i64 0, .int .u8 0, .slice none 0 0]
  have HB1 := Lib.hid B1
  have hb := below_al (w.alloc (.cells #[.int .i64 0, .int .u8 0, .slice none 0 0] 51)) (.cells #[.int .i64 0] 29)
  have B2 := B1.trans (hb.mono B1.size)
  have h_l_2 := h_l_1.below batE_lasts hb
  have h_p_2 := h_p_1.later hb
  clear hb B1 h_l_1 h_p_1
  have h_e_2 := (PRow.new 29 (w.alloc (.cells #[.int .i64 0, .int .u8 0, .slice none 0 0] 51)) #[.int .i64 0]).base HB1.out
  simp only [World.size_alloc] at h_e_2
  go_wp2_with fail
  generalize ((w.alloc (.cells #[.int .i64 0, .int .u8 0, .slice none 0 0] 51)).alloc (.cells #[.int .i64 0] 29)) = w2 at *
  have c := CheckR_any w2 cn hc1 hc2 kd hk1 hk2 h_l_2 HW.out
  refine c.mono ?_
  rintro e w3 ⟨rfl, hb⟩
  clear c
  have B3 := B2.trans (hb.mono B2.size)
  have h_l_3 := h_l_2.below batE_lasts hb
  have h_p_3 := h_p_2.later hb
  have h_e_3 := h_e_2.later hb
  clear hb B2 h_l_2 h_p_2 h_e_2
  have ke := h_e_3.cell 0 _ rfl
  have fe := h_e_3.free 0
  have E2 := h_e_3.set 0 (.int .i64 0)
  simp only [List.setIfInBounds_toArray, List.set_cons_zero, List.set_cons_succ] at E2
  have P2 := h_p_3.other (p := ⟨w.heap.size + 1, 0, none⟩) (by show w.heap.size ≠ w.heap.size + 1; omega) h_e_3.lo (.int .i64 0)
  go_upto_region 2 with fail
  clear ke fe h_e_3 h_p_3 h_l_3 B3
  generalize w3.setCell ⟨w.heap.size + 1, 0, none⟩ (.int .i64 0) = w3 at *
  have ke := E2.cell 0 _ rfl
  go_wp2_with fail
  clear ke
  refine (New_any w3 cn hc1 hc2 kd hk1 hk2).mono ?_
  rintro e w4 ⟨rfl, hb⟩
  have P4 := P2.later hb
  have E4 := E2.later hb
  clear P2 E2 hb
  have P5 := P4.put #[.int .i64 cn, .int .u8 ((kd : Nat) : Int), .slice none 0 0]
  have E5 := E4.row2 (g := w.heap.size) (by show w.heap.size + 1 ≠ w.heap.size; omega) P4.lo #[.int .i64 cn, .int .u8 ((kd : Nat) : Int), .slice none 0 0]
  have ke := E5.cell 0 _ rfl
  have fe := E5.free 0
  have E6 := E5.set 0 (.int .i64 0)
  simp only [List.setIfInBounds_toArray, List.set_cons_zero, List.set_cons_succ] at E6
  have P6 := P5.other (p := ⟨w.heap.size + 1, 0, none⟩) (by show w.heap.size ≠ w.heap.size + 1; omega) E5.lo (.int .i64 0)
  go_upto_region 5 with (first | refine wpList_store_whole rfl 51 _ _ rfl atPrf _ _ _ P4.row rfl rfl rfl rfl (prf_one _ _ _ _ _) ?_)
  clear ke fe E5 P5 P4 E4
  generalize (w4.setRow w.heap.size #[.int .i64 cn, .int .u8 ((kd : Nat) : Int), .slice none 0 0]).setCell ⟨w.heap.size + 1, 0, none⟩ (.int .i64 0) = w5 at *
  go_wp2_with fail
  refine (ballots_any w5 a_l n_l c_l).mono ?_
  rintro e w6 ⟨rfl, rfl⟩
  go_wp2_with fail
  have hal := below_al w5 (.cells #[.slice a_l n_l c_l] 33)
  have P7 := P6.later hal
  have E7 := E6.later hal
  have kl := (PRow.new 33 w5 #[.slice a_l n_l c_l]).cell 0 _ rfl
  clear P6 E6 hal HB1
  generalize w5.alloc (.cells #[.slice a_l n_l c_l] 33) = wR at *
  generalize w5.heap.size = gl at *
  have HSR := Lib.hid P7.below.size
  refine (wpIn_wide (n := 9)).1 ?_
  refine wpIn_rangeFunc_ownH rfl (by omega) (gf := 58) (lb := #[.pointer (some ⟨gl, 0, none⟩)]) rfl trivial (enters_of Try.func58 (by kernel_rfl) rfl)
    (ballots_stops w wR kd cn HRC.out HW.out _ gl P7.below kl) (fun h k => h.trans k) (fun W l o o' hl h hc hw => belowK_b (w := wR) HSR.out W l o o' hl h hc hw) (Below.refl _ _) (fun _ => rfl)
    (TalI w w.heap.size (w.heap.size + 1) kd cn) (TalX w w.heap.size (w.heap.size + 1) kd cn) (talI_own HSR.out) (fun c => talX_own HSR.out c)
    ⟨P7.below, by simp [rowsL], none, 0, by simpa [rowsL] using P7.row, E7.row, by simpa [rowsL] using Ow2.nil (rowO w.heap.size wR) 92 w.heap.size wR⟩
    (fun x a' W => ∃ gb, a' = { tmps := #[.slice a_l n_l c_l, .int .i64 cn, .int .u8 ((kd : Nat) : Int), undef, undef, undef, .pointer (some ⟨w.heap.size, 0, none⟩), .pointer (some ⟨w.heap.size + 1, 0, none⟩), .pointer (some ⟨gb, 0, none⟩), .slice a_l n_l c_l, .int .i64 cn, .int .u8 ((kd : Nat) : Int), .int .i64 0, .int .i64 0, .bool false, undef, undef, .tuple #[.agg #[.int .i64 cn, .int .u8 ((kd : Nat) : Int), .slice none 0 0], .int .i64 0], .int .i64 cn, .int .u8 ((kd : Nat) : Int), .tuple #[.agg #[.int .i64 cn, .int .u8 ((kd : Nat) : Int), .slice none 0 0], .int .i64 0], .agg #[.int .i64 cn, .int .u8 ((kd : Nat) : Int), .slice none 0 0], .int .i64 0, .slice a_l n_l c_l, .func (.func 58) #[] #[.pointer (some ⟨gl, 0, none⟩)], .agg #[.int .u8 ((kd : Nat) : Int), .slice x.a x.n x.c], undef, undef, undef, undef, undef, undef, undef, undef, undef, undef, undef, undef], defers := [] } ∧ W.heap[gb]? = some (.cells #[.int .u8 ((kd : Nat) : Int), .slice x.a x.n x.c] 37 (0, 0)))
    (fun x a' _ W W' row h hg hr => by
      obtain ⟨gb, h1, h2⟩ := h
      exact ⟨gb, h1, cellsK_grown hg (fun r e => (hr r e).2) _ _ _ h2⟩) ?assign ?body ?done ?stop
  case assign =>
    clear P7 E7 kl
    intro L pre x W K hI hK
    have HI := Lib.hid hI
    have HK := Lib.hid hK
    clear hI hK
    gi_wp2_with (refine wpListIn_store_new rfl 37 _ _ rfl atBal _ _ _ rfl rfl rfl rfl (bal_one _ _ _ _) ?_)
    exact HK.out _ _ ((KeepsOthers.alloc W _).from _) ((Below.refl _ W).alloc HI.out.1.size _) ((talI_own HSR.out).alloc _ HI.out) ⟨W.heap.size, rfl, heap_alloc_new W _⟩
  case body =>
    clear P7 E7 kl
    rintro L pre x a' W hwl hrec ⟨hB, hlen, a_r, c_r, hp, he, hO⟩ ⟨gb, rfl, hgb⟩ hlt
    have P : PRow 51 w W w.heap.size (prfC cn kd a_r (rowsL (pre.map BV.ms)).length c_r) := ⟨hB, hp, Nat.le_refl _, (Array.getElem?_eq_some_iff.1 hp).1⟩
    have E : PRow 29 w W (w.heap.size + 1) #[.int .i64 0] := ⟨hB, he, Nat.le_succ _, (Array.getElem?_eq_some_iff.1 he).1⟩
    have kb0 : W.cell? ⟨gb, 0, none⟩ = some (.int .u8 ((kd : Nat) : Int)) := by rw [cell_of_row _ _ _ _ _ _ hgb]; rfl
    have kb1 : W.cell? ⟨gb, 1, none⟩ = some (.slice x.a x.n x.c) := by rw [cell_of_row _ _ _ _ _ _ hgb]; rfl
    have HVR := Lib.hid (VR.rows (kd := kd) (cn := cn) (pre.map BV.ms) (fun m hm => by
      obtain ⟨y, _, e⟩ := List.mem_map.1 hm
      rw [← e]
      exact y.ok) (by rw [List.length_map]; omega))
    have HSM := Lib.hid (show sumR (rowsL (pre.map BV.ms)) ≤ 999 by rw [sumR_rows, List.length_map]; omega)
    have HNX := Lib.hid (show rowsL ((pre ++ [x]).map BV.ms) = addR (rowsL (pre.map BV.ms)) x.ms by rw [List.map_append]; exact rowsL_snoc _ _)
    have HO := Lib.hid hO
    have HB := Lib.hid hB
    clear hp he hgb hwl hrec hlt hO hB
    obtain ⟨rs, hrs⟩ : ∃ rs, rowsL (pre.map BV.ms) = rs := ⟨_, rfl⟩
    rw [hrs] at HVR HSM HNX HO P hlen
    clear hrs
    have k0 := P.cell 0 _ rfl
    have k1 := P.cell 1 _ rfl
    have k2 := P.cell 2 _ rfl
    have C := (callsIn_wide (n := 9 - 1 - 1 - 1) (P := Try.prog)).2 (Add_any W cn hc1 hc2 kd hk1 hk2 (HO.out.rd fun x u v h => h.rd) HVR.out hlen HSM.out (x.rd.below HB.out) x.ok)
    gi_wp2_with fail
    refine ⟨trivial, C.mono ?_⟩
    clear C k0 k1 k2 kb0 kb1 HO
    rintro e Wb ⟨hor, hb⟩
    have P2 := P.later hb
    have E2 := E.later hb
    have HKF := Lib.hid (keepsFrom_of (B := wR.heap.size) hb)
    have HSZ := Lib.hid HB.out.size
    have HBW := Lib.hid (hb.mono HB.out.size)
    clear P E hb
    have hne : w.heap.size + 1 ≠ w.heap.size := by omega
    have HNE := Lib.hid hne
    rcases hor with ⟨hle2, a2, c2, rfl, hO2⟩ | ⟨hbig, rfl⟩
    case inl =>
      have HO2 := Lib.hid hO2
      have HLE := Lib.hid hle2
      clear hO2 hle2
      have P3 := P2.put (prfC cn kd a2 (addR rs x.ms).length c2)
      have E3 := E2.row2 hne P2.lo (prfC cn kd a2 (addR rs x.ms).length c2)
      have HK3 := Lib.hid (HKF.out.setRowC P2.row (prfC cn kd a2 (addR rs x.ms).length c2))
      have HO3 := Lib.hid (((ow2_setRow HO2.out P2.row (by decide) (by decide) (prfC cn kd a2 (addR rs x.ms).length c2)).base_le HSZ.out).mono fun x u v h => h.base_le HSZ.out)
      have e0 := E3.cell 0 _ rfl
      have f0 := E3.free 0
      have E4 := E3.set 0 (.int .i64 0)
      simp only [List.setIfInBounds_toArray, List.set_cons_zero, List.set_cons_succ] at E4
      have P4 := P3.other (p := ⟨w.heap.size + 1, 0, none⟩) (Ne.symm HNE.out) E3.lo (.int .i64 0)
      have HK4 := Lib.hid (HK3.out.setCellC E3.row (i := 0) (.int .i64 0))
      have HO4 := Lib.hid (ow2_setHi HO3.out E3.row (by decide) (by decide) (.int .i64 0) (i := 0))
      have e1 := E4.cell 0 _ rfl
      clear E2 P3 E3 HK3 HO3 HO2 HKF hne
      gi_wp2_with (refine wpListIn_store_whole rfl 51 _ _ rfl atPrf _ _ _ P2.row rfl rfl rfl rfl (prf_one _ _ _ _ _) ?_)
      exact ⟨HK4.out, (below_set HBW.out (Nat.le_refl _) _).setCell (Nat.le_succ _) _, P4.below, by rw [HNX.out]; exact HLE.out, a2, c2, by rw [HNX.out]; exact P4.row, E4.row, by rw [HNX.out]; exact HO4.out⟩
    case inr =>
      have HBIG := Lib.hid hbig
      clear hbig
      have P3 := P2.put #[.int .i64 0, .int .u8 0, .slice none 0 0]
      have E3 := E2.row2 hne P2.lo #[.int .i64 0, .int .u8 0, .slice none 0 0]
      have HK3 := Lib.hid (HKF.out.setRowC P2.row #[.int .i64 0, .int .u8 0, .slice none 0 0])
      have e0 := E3.cell 0 _ rfl
      have f0 := E3.free 0
      have E4 := E3.set 0 (.int .i64 9)
      simp only [List.setIfInBounds_toArray, List.set_cons_zero, List.set_cons_succ] at E4
      have P4 := P3.other (p := ⟨w.heap.size + 1, 0, none⟩) (Ne.symm HNE.out) E3.lo (.int .i64 9)
      have HK4 := Lib.hid (HK3.out.setCellC E3.row (i := 0) (.int .i64 9))
      have e1 := E4.cell 0 _ rfl
      clear E2 P3 E3 HK3 HKF hne
      gi_wp2_with (refine wpListIn_store_whole rfl 51 _ _ rfl atPrf _ _ _ P2.row rfl rfl rfl rfl (prf_one _ _ _ _ _) ?_)
      clear e0 f0 e1 P2
      generalize (Wb.setRow w.heap.size #[.int .i64 0, .int .u8 0, .slice none 0 0]).setCell ⟨w.heap.size + 1, 0, none⟩ (.int .i64 9) = Wc at *
      refine wpIn_region_any (by kernel_rfl) ?_
      change wpAnyIn _ _ _ _ _ _ _ _ _ (World.drew Wc)
      have hdw := (Below.refl Wc.heap.size Wc).drew
      have P5 := P4.later hdw
      have E5 := E4.later hdw
      have HK5 := Lib.hid (HK4.out.trans (keepsFrom_of hdw))
      clear P4 E4 hdw HK4
      generalize Wc.drew = Wd at *
      have e5 := E5.cell 0 _ rfl
      have E6 := E5.row2 HNE.out P5.lo #[.int .i64 0, .int .u8 0, .slice none 0 0]
      have P6 := P5.put #[.int .i64 0, .int .u8 0, .slice none 0 0]
      have e6 := E6.cell 0 _ rfl
      have f6 := E6.free 0
      have E7 := E6.set 0 (.int .i64 9)
      simp only [List.setIfInBounds_toArray, List.set_cons_zero, List.set_cons_succ] at E7
      have P7 := P6.other (p := ⟨w.heap.size + 1, 0, none⟩) (Ne.symm HNE.out) E6.lo (.int .i64 9)
      have HK7 := Lib.hid ((HK5.out.setRowC P5.row #[.int .i64 0, .int .u8 0, .slice none 0 0]).setCellC E6.row (i := 0) (.int .i64 9))
      clear E5 E6 P6 HK5
      refine wpAnyIn_ready (rs := [0, 1]) (by kernel_rfl) (by simp) ?_
      refine (AllReadyIn.cons (o := ?oq9_0) ?hoq9_0 (fun K hK => ?kq9_0) (AllReadyIn.cons (o := ?oq9_1) ?hoq9_1 (fun K hK => ?kq9_1) AllReadyIn.nil))
      case hoq9_0 => simp only [List.getElem?_toArray, List.getElem?_cons_succ, List.getElem?_cons_zero]; rfl
      case hoq9_1 => simp only [List.getElem?_toArray, List.getElem?_cons_succ, List.getElem?_cons_zero]; rfl
      case kq9_0 =>
        rw [if_pos (by rfl)]
        gi_wp2_with fail
        try simp only [Act.put, List.setIfInBounds_toArray, List.set_cons_zero, List.set_cons_succ]
        refine wpAnyIn_ready (rs := [1, 2]) (by kernel_rfl) (by simp) ?_
        refine (AllReadyIn.cons (o := ?oq5_1) ?hoq5_1 (fun K hK => ?kq5_1) (AllReadyIn.cons (o := ?oq5_2) ?hoq5_2 (fun K hK => ?kq5_2) AllReadyIn.nil))
        case hoq5_1 => simp only [List.getElem?_toArray, List.getElem?_cons_succ, List.getElem?_cons_zero]; rfl
        case hoq5_2 => simp only [List.getElem?_toArray, List.getElem?_cons_succ, List.getElem?_cons_zero]; rfl
        case kq5_1 =>
          rw [if_pos (by rfl)]
          gi_wp2_with fail
          try simp only [Act.put, List.setIfInBounds_toArray, List.set_cons_zero, List.set_cons_succ]
          refine wpAnyIn_ready (rs := [2]) (by kernel_rfl) (by simp) ?_
          refine (AllReadyIn.cons (o := ?oq2_2) ?hoq2_2 (fun K hK => ?kq2_2) AllReadyIn.nil)
          case hoq2_2 => simp only [List.getElem?_toArray, List.getElem?_cons_succ, List.getElem?_cons_zero]; rfl
          case kq2_2 =>
            rw [if_pos (by rfl)]
            refine opIn_store_whole 51 _ _ rfl atPrf _ _ _ P5.row rfl rfl rfl rfl (prf_one _ _ _ _ _) ?_
            refine hK _ _ ?_
            clear hK K
            try simp only [Act.put, List.setIfInBounds_toArray, List.set_cons_zero, List.set_cons_succ]
            refine wpAnyIn_ready (rs := [3]) (by kernel_rfl) (by simp) ?_
            refine (AllReadyIn.cons (o := ?oq1_3) ?hoq1_3 (fun K hK => ?kq1_3) AllReadyIn.nil)
            case hoq1_3 => simp only [List.getElem?_toArray, List.getElem?_cons_succ, List.getElem?_cons_zero]; rfl
            case kq1_3 =>
              rw [if_pos (by rfl)]
              gi_wp2_with fail
              try simp only [Act.put, List.setIfInBounds_toArray, List.set_cons_zero, List.set_cons_succ]
              refine wpAnyIn_done (by kernel_rfl) ?_ _
              clear e5 e6 f6
              gi_wp2_with fail
              exact ⟨HK7.out, rfl, P7.below, by rw [HNX.out]; exact HBIG.out, P7.row, E7.row⟩
        case kq5_2 =>
          rw [if_pos (by rfl)]
          refine opIn_store_whole 51 _ _ rfl atPrf _ _ _ P5.row rfl rfl rfl rfl (prf_one _ _ _ _ _) ?_
          refine hK _ _ ?_
          clear hK K
          try simp only [Act.put, List.setIfInBounds_toArray, List.set_cons_zero, List.set_cons_succ]
          refine wpAnyIn_ready (rs := [1]) (by kernel_rfl) (by simp) ?_
          refine (AllReadyIn.cons (o := ?oq4_1) ?hoq4_1 (fun K hK => ?kq4_1) AllReadyIn.nil)
          case hoq4_1 => simp only [List.getElem?_toArray, List.getElem?_cons_succ, List.getElem?_cons_zero]; rfl
          case kq4_1 =>
            rw [if_pos (by rfl)]
            gi_wp2_with fail
            try simp only [Act.put, List.setIfInBounds_toArray, List.set_cons_zero, List.set_cons_succ]
            refine wpAnyIn_ready (rs := [3]) (by kernel_rfl) (by simp) ?_
            refine (AllReadyIn.cons (o := ?oq3_3) ?hoq3_3 (fun K hK => ?kq3_3) AllReadyIn.nil)
            case hoq3_3 => simp only [List.getElem?_toArray, List.getElem?_cons_succ, List.getElem?_cons_zero]; rfl
            case kq3_3 =>
              rw [if_pos (by rfl)]
              gi_wp2_with fail
              try simp only [Act.put, List.setIfInBounds_toArray, List.set_cons_zero, List.set_cons_succ]
              refine wpAnyIn_done (by kernel_rfl) ?_ _
              clear e5 e6 f6
              gi_wp2_with fail
              exact ⟨HK7.out, rfl, P7.below, by rw [HNX.out]; exact HBIG.out, P7.row, E7.row⟩
      case kq9_1 =>
        rw [if_pos (by rfl)]
        gi_wp2_with fail
        try simp only [Act.put, List.setIfInBounds_toArray, List.set_cons_zero, List.set_cons_succ]
        refine wpAnyIn_ready (rs := [0]) (by kernel_rfl) (by simp) ?_
        refine (AllReadyIn.cons (o := ?oq8_0) ?hoq8_0 (fun K hK => ?kq8_0) AllReadyIn.nil)
        case hoq8_0 => simp only [List.getElem?_toArray, List.getElem?_cons_succ, List.getElem?_cons_zero]; rfl
        case kq8_0 =>
          rw [if_pos (by rfl)]
          gi_wp2_with fail
          try simp only [Act.put, List.setIfInBounds_toArray, List.set_cons_zero, List.set_cons_succ]
          refine wpAnyIn_ready (rs := [2]) (by kernel_rfl) (by simp) ?_
          refine (AllReadyIn.cons (o := ?oq7_2) ?hoq7_2 (fun K hK => ?kq7_2) AllReadyIn.nil)
          case hoq7_2 => simp only [List.getElem?_toArray, List.getElem?_cons_succ, List.getElem?_cons_zero]; rfl
          case kq7_2 =>
            rw [if_pos (by rfl)]
            refine opIn_store_whole 51 _ _ rfl atPrf _ _ _ P5.row rfl rfl rfl rfl (prf_one _ _ _ _ _) ?_
            refine hK _ _ ?_
            clear hK K
            try simp only [Act.put, List.setIfInBounds_toArray, List.set_cons_zero, List.set_cons_succ]
            refine wpAnyIn_ready (rs := [3]) (by kernel_rfl) (by simp) ?_
            refine (AllReadyIn.cons (o := ?oq6_3) ?hoq6_3 (fun K hK => ?kq6_3) AllReadyIn.nil)
            case hoq6_3 => simp only [List.getElem?_toArray, List.getElem?_cons_succ, List.getElem?_cons_zero]; rfl
            case kq6_3 =>
              rw [if_pos (by rfl)]
              gi_wp2_with fail
              try simp only [Act.put, List.setIfInBounds_toArray, List.set_cons_zero, List.set_cons_succ]
              refine wpAnyIn_done (by kernel_rfl) ?_ _
              clear e5 e6 f6
              gi_wp2_with fail
              exact ⟨HK7.out, rfl, P7.below, by rw [HNX.out]; exact HBIG.out, P7.row, E7.row⟩
  case done =>
    clear P7 E7 kl
    rintro D xs W hD hS ⟨hB, hlen, a_r, c_r, hp, he, hO⟩ hK
    rw [hS] at hlen hp hO
    have P : PRow 51 w W w.heap.size (prfC cn kd a_r (rowsL (allB l)).length c_r) := ⟨hB, hp, Nat.le_refl _, (Array.getElem?_eq_some_iff.1 hp).1⟩
    have E : PRow 29 w W (w.heap.size + 1) #[.int .i64 0] := ⟨hB, he, Nat.le_succ _, (Array.getElem?_eq_some_iff.1 he).1⟩
    have HO := Lib.hid hO
    have HLE := Lib.hid hlen
    have HD := Lib.hid hD
    have HDW := Lib.hid (Nat.le_trans HSR.out hD)
    have HKD := Lib.hid hK
    have HNE : Hid (w.heap.size + 1 ≠ w.heap.size) := Lib.hid (by omega)
    clear hp he hO hlen hK hS hB hD
    generalize rowsL (allB l) = rs at *
    go_wp2_with fail
    have hdw := (Below.refl W.heap.size W).drew
    have P4 := P.later hdw
    have E4 := E.later hdw
    have HO4 := Lib.hid ((HO.out.below hdw).mono (F' := rowO w.heap.size W.drew) fun x u v h => h.below hdw)
    have HK4 := Lib.hid (keepsFrom_of (B := wR.heap.size) hdw)
    clear P E HO hdw
    have k0 := P4.cell 0 _ rfl
    have k1 := P4.cell 1 _ rfl
    have k2 := P4.cell 2 _ rfl
    have e0 := E4.cell 0 _ rfl
    refine wp_region_held_drew (S := (fun v => v.cell? ⟨w.heap.size, 0, none⟩ = some (.int .i64 cn) ∧ v.cell? ⟨w.heap.size, 1, none⟩ = some (.int .u8 ((kd : Nat) : Int)) ∧ v.cell? ⟨w.heap.size, 2, none⟩ = some (.slice a_r rs.length c_r) ∧ v.cell? ⟨w.heap.size + 1, 0, none⟩ = some (.int .i64 0))) (by kernel_rfl) ?_ (fun hHeld => ?_)
    · exact ⟨k0, k1, k2, e0⟩
    generalize W.drew = w4 at *
    refine wpAnyH_take (i := 0) (oi := ?oir10_0) (v := ?vr10_0) ?hir10_0 (by kernel_rfl) (by kernel_rfl) (by kernel_rfl) ?hqr10_0 ?hyr10_0 (by assumption) ?restr10_0
    case hir10_0 => simp only [List.getElem?_toArray, List.getElem?_cons_succ, List.getElem?_cons_zero]; rfl
    case hqr10_0 => exact fun _ _ _ h => h
    case hyr10_0 => (refine Or.inl ⟨by rfl, ?_⟩; intro w hSw; (try dsimp only at hSw); go_simp; all_goals with_reducible rfl)
    try simp only [Act.put, List.setIfInBounds_toArray, List.set_cons_zero, List.set_cons_succ]
    refine wpAnyH_take (i := 1) (oi := ?oir10_1) (v := ?vr10_1) ?hir10_1 (by kernel_rfl) (by kernel_rfl) (by kernel_rfl) ?hqr10_1 ?hyr10_1 (by assumption) ?restr10_1
    case hir10_1 => simp only [List.getElem?_toArray, List.getElem?_cons_succ, List.getElem?_cons_zero]; rfl
    case hqr10_1 => exact fun _ _ _ h => h
    case hyr10_1 => (refine Or.inl ⟨by rfl, ?_⟩; intro w hSw; (try dsimp only at hSw); go_simp; all_goals with_reducible rfl)
    try simp only [Act.put, List.setIfInBounds_toArray, List.set_cons_zero, List.set_cons_succ]
    refine wpAnyH_ready (rs := [2]) (by kernel_rfl) (by simp) ?_
    refine AllReadyH.cons (o := ?oz11) ?hoz11 (fun K hK => ?kz11) AllReadyH.nil
    case hoz11 => simp only [List.getElem?_toArray, List.getElem?_cons_succ, List.getElem?_cons_zero]; rfl
    refine op_store_whole 51 _ _ rfl atPrf _ _ _ P4.row rfl rfl rfl rfl (prf_one _ _ _ _ _) ?_
    have P5 := P4.put (prfC cn kd a_r rs.length c_r)
    have E5 := E4.row2 HNE.out P4.lo (prfC cn kd a_r rs.length c_r)
    have HK5 := Lib.hid (HK4.out.setRowC P4.row (prfC cn kd a_r rs.length c_r))
    have HO5 := Lib.hid (ow2_setRow HO4.out P4.row (by decide) (by decide) (prfC cn kd a_r rs.length c_r))
    clear k0 k1 k2 e0 P4 E4 HK4 HO4
    have k0 := P5.cell 0 _ rfl
    have k1 := P5.cell 1 _ rfl
    have k2 := P5.cell 2 _ rfl
    have e0 := E5.cell 0 _ rfl
    refine hK.out _ _ ?_ (fun hHeld => ?_)
    · exact ⟨k0, k1, k2, e0⟩
    clear hK K
    try simp only [Act.put, List.setIfInBounds_toArray, List.set_cons_zero, List.set_cons_succ]
    refine wpAnyH_ready (rs := [3]) (by kernel_rfl) (by simp) ?_
    refine AllReadyH.cons (o := ?oz12) ?hoz12 (fun K hK => ?kz12) AllReadyH.nil
    case hoz12 => simp only [List.getElem?_toArray, List.getElem?_cons_succ, List.getElem?_cons_zero]; rfl
    have f0 := E5.free 0
    have E6 := E5.set 0 (.int .i64 0)
    simp only [List.setIfInBounds_toArray, List.set_cons_zero, List.set_cons_succ] at E6
    have P6 := P5.other (p := ⟨w.heap.size + 1, 0, none⟩) (Ne.symm HNE.out) E5.lo (.int .i64 0)
    have HK6 := Lib.hid (HK5.out.setCellC E5.row (i := 0) (.int .i64 0))
    have HO6 := Lib.hid (ow2_setHi HO5.out E5.row (by decide) (by decide) (.int .i64 0) (i := 0))
    go_simp
    clear k0 k1 k2 e0 f0
    have k0 := P6.cell 0 _ rfl
    have k1 := P6.cell 1 _ rfl
    have k2 := P6.cell 2 _ rfl
    have e0 := E6.cell 0 _ rfl
    refine hK.out _ _ ?_ (fun hHeld => ?_)
    · exact ⟨k0, k1, k2, e0⟩
    clear hK K
    try simp only [Act.put, List.setIfInBounds_toArray, List.set_cons_zero, List.set_cons_succ]
    refine wpAnyH_done (by kernel_rfl) ?_ _
    clear hHeld k0 k1 k2 e0
    have hKD := HK6.out.same D _ HD.out HKD.out rfl
    have P8 := P6.putD hKD HDW.out (.deferred none)
    have E8 := E6.putD hKD HDW.out (.deferred none)
    have HO8 := Lib.hid (ow2_cellsK HO6.out (cellsK_put (o' := .deferred none) hKD rfl))
    go_wp2_with fail
    refine ⟨by simp, .inl ⟨_, _, rfl, run_takeDeferred hKD, ?_⟩⟩
    refine ⟨_, results_cells2 rfl _ _ _ _ _ _ _ _ rfl P8.row Try.underlying51 rfl (by kernel_rfl) _ rfl (load_err _ _ _ (E8.cell 0 _ rfl)), ?_⟩
    exact ⟨.inl ⟨HLE.out, a_r, c_r, rfl, HO8.out.rd fun x u v h => h.rd⟩, P8.below⟩
  case stop =>
    clear P7 E7 kl
    rintro D c pre W hD ⟨r, hr⟩ ⟨rfl, hB, hbig, hp, he⟩ hK
    have P : PRow 51 w W w.heap.size #[.int .i64 0, .int .u8 0, .slice none 0 0] := ⟨hB, hp, Nat.le_refl _, (Array.getElem?_eq_some_iff.1 hp).1⟩
    have E : PRow 29 w W (w.heap.size + 1) #[.int .i64 9] := ⟨hB, he, Nat.le_succ _, (Array.getElem?_eq_some_iff.1 he).1⟩
    have HBIG := Lib.hid (show 64 < (rowsL (allB l)).length by
      have h1 := rowsL_grow (pre.map BV.ms) r
      rw [hr] at h1
      omega)
    have P8 := P.putD hK (Nat.le_trans HSR.out hD) (.deferred none)
    have E8 := E.putD hK (Nat.le_trans HSR.out hD) (.deferred none)
    clear hp he hbig hr hB
    gi_wp2_with fail
    refine ⟨by simp, .inl ⟨_, _, rfl, run_takeDeferred hK, ?_⟩⟩
    refine ⟨_, results_cells2 rfl _ _ _ _ _ _ _ _ rfl P8.row Try.underlying51 rfl (by kernel_rfl) _ rfl (load_err _ _ _ (E8.cell 0 _ rfl)), ?_⟩
    exact ⟨.inr ⟨HBIG.out, rfl⟩, P8.below⟩

end Go.Proofs.Ythpjnbnheagpiaa
