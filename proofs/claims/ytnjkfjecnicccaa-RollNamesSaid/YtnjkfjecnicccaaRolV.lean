/- slices.Insert at Voter. Condition: at most 2^40 voters. Printed by gen_rolv.py. -/
import Derived.Test.YtnjkfjecnicccaaRolR
import Derived.Laws.CopyOwn
import Derived.Lib.Overlaps
import Derived.Lib.AppendZerosOnto
namespace Go.Proofs.Ytnjkfjecnicccaa
open Go.RowKit Go.Suf
set_option linter.unusedVariables false
set_option linter.unusedSimpArgs false

theorem run_copyV (w : World) (ty : TypeId) (g o dLen dCap : Nat) (b p sLen sCap : Nat) (L : List Value) (t : TypeId) (us : List VQ)
    (hg : w.heap[g]? = some (.cells L.toArray t (0, 0))) (hn : us.length = Nat.min sLen dLen)
    (hsrc : ∀ j v, (vflat us)[j]? = some v → w.cell? ⟨b, p + j, none⟩ = some v) (hfit : o + us.length * 3 ≤ L.length) :
    (Builtin.copy_ #[22, 22] ty #[.slice (some ⟨g, o, none⟩) dLen dCap, .slice (some ⟨b, p, none⟩) sLen sCap]).run Try.prog w =
      .ok (goInt us.length) (w.setRow g (splice L o (vflat us)).toArray) := by
  obtain ⟨i, hi, hz, h3, -⟩ := infoV
  have hl := run_loadCells_list (P := Try.prog) w ⟨b, p, none⟩ (vflat us) (fun j v hj => by
    have ea : (⟨b, p, none⟩ : Addr).add j = ⟨b, p + j, none⟩ := by unfold Addr.add; split <;> simp_all
    rw [ea]; exact hsrc j v hj)
  have hst := run_storeCells_at Try.prog g o t (vflat us) 0 L.toArray w hg (by rw [vflat_length]; simpa using hfit) (vflat_one us)
  rw [vflat_length] at hl hst
  simp [Builtin.copy_, run_underlying Try.underlying22, Builtin.lenOf, Builtin.firstCells, sizeOf, typeInfo, hi, h3, ← hn, hl, hst, splice, vflat_length]

/-- 'copy' as one operation. -/
theorem op_copyV {o : Oper} {a : Act} {w : World} {K : Act → World → Prop} {Q : Exit → Act → World → Prop} (d s : Operand)
    (ho : o.op = .call { callee := .builtin .copy, args := #[d, s], argTypes := #[22, 22] })
    {g off dLen dCap b p sLen sCap : Nat} (hd : a.eval d = .slice (some ⟨g, off, none⟩) dLen dCap) (hs : a.eval s = .slice (some ⟨b, p, none⟩) sLen sCap)
    {L : List Value} {t : TypeId} {us : List VQ} (hg : w.heap[g]? = some (.cells L.toArray t (0, 0))) (hn : us.length = Nat.min sLen dLen)
    (hsrc : ∀ j v, (vflat us)[j]? = some v → w.cell? ⟨b, p + j, none⟩ = some v) (hfit : off + us.length * 3 ≤ L.length)
    (h : ∀ w', Hid (w' = w.setRow g (splice L off (vflat us)).toArray) → K (a.put o.dst (goInt us.length)) w') : o.wp Try.prog a w K Q := by
  have hr := run_copyV w o.type g off dLen dCap b p sLen sCap L t us hg hn hsrc hfit
  unfold Oper.wp execOp
  simp only [ho, resolve, invoke, builtin, Sem.run_bind, Sem.run_pure, Result.andThen_ok, List.map_toArray, List.map_cons, List.map_nil, hd, hs, hr]
  exact h _ (Lib.hid rfl)

theorem wpList_copyV {ops : Array Oper} {rest : List Oper} {o : Oper} {a : Act} {w : World} {Q : Exit → Act → World → Prop} (hgd : o.guard = none) (d s : Operand)
    (ho : o.op = .call { callee := .builtin .copy, args := #[d, s], argTypes := #[22, 22] })
    {g off dLen dCap b p sLen sCap : Nat} (hd : a.eval d = .slice (some ⟨g, off, none⟩) dLen dCap) (hs : a.eval s = .slice (some ⟨b, p, none⟩) sLen sCap)
    {L : List Value} {t : TypeId} {us : List VQ} (hg : w.heap[g]? = some (.cells L.toArray t (0, 0))) (hn : us.length = Nat.min sLen dLen)
    (hsrc : ∀ j v, (vflat us)[j]? = some v → w.cell? ⟨b, p + j, none⟩ = some v) (hfit : off + us.length * 3 ≤ L.length)
    (h : ∀ w', Hid (w' = w.setRow g (splice L off (vflat us)).toArray) → wpList Try.prog ops Q rest (a.put o.dst (goInt us.length)) w') : wpList Try.prog ops Q (o :: rest) a w :=
  wpList_plain hgd fun _ hK => op_copyV d s ho hd hs hg hn hsrc hfit fun w' hw => hK _ _ (h w' hw)

theorem wpList_appH {w : World} {ops : Array Oper} {rest : List Oper} {o : Oper} {a : Act} {Q : Exit → Act → World → Prop} (hgd : o.guard = none) (s x : Operand) (t tn : TypeId)
    (ho : o.op = .call { callee := .builtin .append, args := #[s, x], argTypes := #[t, tn] }) (vs vx : Value) (hs : a.eval s = vs) (hx : a.eval x = vx)
    (v' : Value) (w' : World) (hr : ∀ ty, (Builtin.append_ #[t, tn] ty #[vs, vx]).run Try.prog w = .ok v' w') (h : ∀ w2, Hid (w2 = w') → wpList Try.prog ops Q rest (a.put o.dst v') w2) : wpList Try.prog ops Q (o :: rest) a w :=
  Lib.wpList_append_run w hgd s x t tn ho vs vx hs hx v' w' (hr _) (h _ (Lib.hid rfl))

theorem splice_down {L T V D : List Value} {k : Nat} (hT : L.take k = T) (hk : T.length = k) (hV : V.length = 3) (hfit : k + 3 + D.length ≤ L.length) :
    (splice (splice L (k + 3) D) k V).take (k + 3 + D.length) = T ++ V ++ D ∧ (splice (splice L k V) (k + 3) D).take (k + 3 + D.length) = T ++ V ++ D := by
  have h1 : (splice L (k + 3) D).take k = T := by
    unfold splice
    rw [List.take_append_of_le_length (by simp; omega), List.take_take, Nat.min_eq_left (by omega), hT]
  have h2 : (splice L (k + 3) D).drop (k + 3) = D ++ L.drop (k + 3 + D.length) := by
    unfold splice
    rw [List.drop_append, List.length_take, Nat.min_eq_left (by omega), Nat.sub_self, List.drop_of_length_le (by simp; omega)]
    rfl
  have h3 : splice L k V = (T ++ V) ++ L.drop (k + 3) := by
    unfold splice
    rw [hT, hV, List.append_assoc]
  refine ⟨?_, ?_⟩
  · rw [splice, h1, hV, h2, ← List.append_assoc, ← List.append_assoc, List.take_append_of_le_length (by simp; omega), List.take_of_length_le (by simp; omega)]
  · have h4 : (splice L k V).take (k + 3) = T ++ V := by
      rw [h3, List.take_append_of_le_length (by simp; omega), List.take_of_length_le (by simp; omega)]
    rw [splice, h4, ← List.append_assoc, List.take_append_of_le_length (by simp; omega), List.take_of_length_le (by simp; omega)]

theorem vflat_take (vs : List VQ) (i : Nat) : (vflat vs).take (i * 3) = vflat (vs.take i) := by
  by_cases h : i ≤ vs.length
  · conv => lhs; rw [← List.take_append_drop i vs, vflat_append]
    rw [List.take_append_of_le_length (by rw [vflat_length, List.length_take]; omega), List.take_of_length_le (by rw [vflat_length, List.length_take]; omega)]
  · rw [List.take_of_length_le (by rw [vflat_length]; omega), List.take_of_length_le (by omega)]
theorem vflat_drop_at (vs : List VQ) (i j : Nat) : (vflat (vs.drop i))[j]? = if i ≤ vs.length then (vflat vs)[i * 3 + j]? else none := by
  by_cases h : i ≤ vs.length
  · rw [if_pos h]
    conv => rhs; rw [← List.take_append_drop i vs, vflat_append]
    rw [List.getElem?_append_right (by rw [vflat_length, List.length_take]; omega), vflat_length, List.length_take, Nat.min_eq_left h, Nat.add_sub_cancel_left]
  · rw [if_neg h, List.drop_of_length_le (by omega)]
    rfl

/-- A row laid at a place: the row's own facts. -/
theorem owV_of {base : Nat} {w : World} {g n cap : Nat} {L : List Value} {vs : List VQ} (hg : w.heap[g]? = some (.cells L.toArray 32 (0, 0))) (hb : base ≤ g) (hl : vs.length = n) (hc : n ≤ cap) (hm : cap ≤ maxLen) (hL : L.length = cap * 3) (ht : L.take (n * 3) = vflat vs) (hw : ∀ v ∈ vs, VW v) : OwV base w (some ⟨g, 0, none⟩) n cap vs :=
  ⟨hl, ⟨by rw [vflat_length, hl], .inr ⟨g, cap, L.toArray, rfl, hb, hg, hc, hm, by simpa using hL, by simpa using ht⟩⟩, hw⟩

theorem insert_len (vs : List VQ) (v : VQ) (i : Nat) (h : i ≤ vs.length) : (vs.take i ++ [v] ++ vs.drop i).length = vs.length + 1 := by
  simp; omega
theorem insert_wf {vs : List VQ} {v : VQ} {i : Nat} (h : ∀ x ∈ vs, VW x) (hv : VW v) : ∀ x ∈ vs.take i ++ [v] ++ vs.drop i, VW x := by
  intro x hx
  rcases List.mem_append.1 hx with hx | hx
  · rcases List.mem_append.1 hx with hx | hx
    · exact h x (List.mem_of_mem_take hx)
    · rw [List.mem_singleton.1 hx]; exact hv
  · exact h x (List.mem_of_mem_drop hx)

/-- What Insert answers. -/
def RetI (base : Nat) (w : World) (n : Nat) (vs : List VQ) : Ending → World → Prop := fun e w' =>
  ∃ a cap, e = .returned (.slice a n cap) ∧ OwV base w' a n cap vs ∧ Below base w w'

set_option maxHeartbeats 4000000 in
/-- At the end. -/
theorem insert_end (w : World) (base : Nat) {a : Option Addr} {n cap : Nat} {vs : List VQ} (h : OwV base w a n cap vs) (hn : n ≤ 1099511627776) (hbase : base ≤ w.heap.size) {gv : Nat} {v : VQ} (hr : RdV w (some ⟨gv, 0, none⟩) 1 1 [v]) :
    Calls Try.prog 43 #[.slice a n cap, .int .i64 (n : Nat), .slice (some ⟨gv, 0, none⟩) 1 1] w (RetI base w (n + 1) (vs ++ [v])) := by
  have hln := h.rd.le
  have hlc := h.rd.max
  unfold maxLen at hlc
  go_enter Try.func43, Try.ntmps43
  go_wp2_with (at_builtin; refine wpList_appV rfl _ _ rfl base rfl h rfl hr (by omega) hbase ?_; intro a' c' w1 hown hg hb1; refine Hid.out ?_)
  all_goals (
    have HO := Lib.hid hown
    have HB := Lib.hid hb1
    clear hown hg hb1 h hr
    refine Lib.hid ?_
    go_wp2_with fail
    go_ret
    exact ⟨a', c', rfl, HO.out, HB.out⟩)

set_option maxRecDepth 100000 in
set_option maxHeartbeats 8000000 in
/-- There is room. -/
theorem insert_room (w : World) (base : Nat) {g n cap i : Nat} {vs : List VQ} (h : OwV base w (some ⟨g, 0, none⟩) n cap vs) (hn : n ≤ 1099511627776) (hi : i < n) (hroom : n + 1 ≤ cap) {gv : Nat} {v : VQ} (hv : VW v) (hgv : gv ≠ g) (hw : w.heap[gv]? = some (.cells (vcells v).toArray 32 (0, 0))) {R : List VQ} (hR : Hid (R = vs.take i ++ [v] ++ vs.drop i)) :
    Calls Try.prog 43 #[.slice (some ⟨g, 0, none⟩) n cap, .int .i64 (i : Nat), .slice (some ⟨gv, 0, none⟩) 1 1] w (RetI base w (n + 1) R) := by
  obtain ⟨g', cur, e, hgb, hg, hnc, hmax, hsz, hcur⟩ := h.row (by omega)
  obtain rfl : g = g' := by simpa using e
  have htake : cur.toList.take (n * 3) = vflat vs := by
    rcases h.own.2 with ⟨hv, hn⟩ | ⟨g2, cap', cur2, hv2, hg2, hh2, hnc2, hm2, hsz2, htake2⟩
    · simp at hv
    · simp at hv2
      obtain ⟨rfl, rfl⟩ := hv2
      rw [hg] at hh2
      simp at hh2
      subst hh2
      exact htake2
  have hlen := h.len
  have HWF := Lib.hid (insert_wf (i := i) h.wf hv)
  obtain ⟨L, rfl⟩ : ∃ L : List Value, cur = L.toArray := ⟨cur.toList, by simp⟩
  have hL : L.length = cap * 3 := by simpa using hsz
  simp only [] at htake
  have hT : L.take (i * 3) = vflat (vs.take i) := by
    rw [← vflat_take, ← htake, List.take_take, Nat.min_eq_left (by omega)]
  have HD := Lib.hid (splice_down (L := L) (T := vflat (vs.take i)) (V := vflat [v]) (D := vflat (vs.drop i)) hT (by rw [vflat_length, List.length_take]; omega) rfl (by rw [vflat_length, List.length_drop]; omega))
  have HS := Lib.hid hT
  have hcap : cap ≤ 9223372036854775807 := by unfold maxLen at hmax; omega
  have hov : ∀ lb cb, (callFunc 55 #[.slice (some ⟨gv, 0, none⟩) 1 1, .slice (some ⟨g, (i + 1) * 3, none⟩) lb cb]).run Try.prog w = .ok (.value (.bool false)) w := fun lb cb => by
    rw [run_callFunc_extern Try.func55 (by kernel_rfl) (by kernel_rfl) (by kernel_rfl) (e := Extern.SlicesOverlaps.overlaps #[22, 22] #[4]) (by kernel_rfl),
      Lib.run_overlaps_apart w 22 4 32 Try.underlying22 3 (fun w => by obtain ⟨j, hj, -, h3, -⟩ := infoV; simp [sizeOf, typeInfo, hj, h3]) ⟨gv, 0, none⟩ ⟨g, (i + 1) * 3, none⟩ 1 1 lb cb hgv 32 32 3 (cap * 3) (by simp [World.shape?, hw, vcells]) (by simp [World.shape?, hg, hL]) (by omega) (by simp [World.frozen?, hw]) (by simp [World.frozen?, hw])]
    rfl
  have HCP1 := Lib.hid (show ∀ j u, (vflat (vs.drop i))[j]? = some u → w.cell? ⟨g, i * 3 + j, none⟩ = some u from fun j u hj => by
    rw [vflat_drop_at, if_pos (by omega)] at hj
    rw [cell_of_row w g _ _ _ _ hg]
    exact hcur _ _ hj)
  have HG := Lib.hid hg
  have HW := Lib.hid hw
  have HLEN := Lib.hid hlen
  have HL := Lib.hid hL
  have HH := Lib.hid h
  clear hsz hcur htake hT hg hw hL hlen h
  go_enter Try.func43, Try.ntmps43
  go_wp2_with (simp only [hov])
  have q1 : IntKind.i64.wrap ((i : Int) + 1) = (i : Int) + 1 := by rw [IntKind.wrap_i64]; omega
  have q2 : (0 : Int) ≤ (i : Int) + 1 := by omega
  have q3 : (i : Int) + 1 ≤ (n : Int) + 1 := by omega
  have q4 : ((i : Int) + 1).toNat = i + 1 := by omega
  have q5 : ¬ cap = i + 1 := by omega
  have q6 : ¬ cap = i := by omega
  have q7 : (i : Int) ≤ (n : Int) + 1 := by omega
  refine wp_region_any (by kernel_rfl) ?_
  change wpAny _ _ _ _ _ _ _ (World.drew _)
  refine wpAny_take (i := 0) (oi := ?oir1_0) (v := ?vr1_0) ?hir1_0 (by kernel_rfl) (by kernel_rfl) (by kernel_rfl) ?hqr1_0 ?hyr1_0 ?restr1_0
  case hir1_0 => simp only [List.getElem?_toArray, List.getElem?_cons_succ, List.getElem?_cons_zero]; rfl
  case hqr1_0 => exact fun _ _ _ h => h
  case hyr1_0 => (refine Or.inl ⟨by rfl, ?_⟩; intro w; go_simp; all_goals with_reducible rfl)
  try simp only [Act.put, List.setIfInBounds_toArray, List.set_cons_zero, List.set_cons_succ]
  refine wpAny_take (i := 1) (oi := ?oir1_1) (v := ?vr1_1) ?hir1_1 (by kernel_rfl) (by kernel_rfl) (by kernel_rfl) ?hqr1_1 ?hyr1_1 ?restr1_1
  case hir1_1 => simp only [List.getElem?_toArray, List.getElem?_cons_succ, List.getElem?_cons_zero]; rfl
  case hqr1_1 => exact fun _ _ _ h => h
  case hyr1_1 => (refine Or.inl ⟨by rfl, ?_⟩; intro w; go_simp; all_goals with_reducible rfl)
  try simp only [Act.put, List.setIfInBounds_toArray, List.set_cons_zero, List.set_cons_succ]
  refine wpAny_take (i := 2) (oi := ?oir1_2) (v := ?vr1_2) ?hir1_2 (by kernel_rfl) (by kernel_rfl) (by kernel_rfl) ?hqr1_2 ?hyr1_2 ?restr1_2
  case hir1_2 => simp only [List.getElem?_toArray, List.getElem?_cons_succ, List.getElem?_cons_zero]; rfl
  case hqr1_2 => exact fun _ _ _ h => h
  case hyr1_2 => (refine Or.inl ⟨by rfl, ?_⟩; intro w; go_simp; all_goals with_reducible rfl)
  try simp only [Act.put, List.setIfInBounds_toArray, List.set_cons_zero, List.set_cons_succ]
  refine wpAny_take (i := 3) (oi := ?oir1_3) (v := ?vr1_3) ?hir1_3 (by kernel_rfl) (by kernel_rfl) (by kernel_rfl) ?hqr1_3 ?hyr1_3 ?restr1_3
  case hir1_3 => simp only [List.getElem?_toArray, List.getElem?_cons_succ, List.getElem?_cons_zero]; rfl
  case hqr1_3 => exact fun _ _ _ h => h
  case hyr1_3 => (refine Or.inl ⟨by rfl, ?_⟩; intro w; go_simp; all_goals with_reducible rfl)
  try simp only [Act.put, List.setIfInBounds_toArray, List.set_cons_zero, List.set_cons_succ]
  refine wpAny_take (i := 4) (oi := ?oir1_4) (v := ?vr1_4) ?hir1_4 (by kernel_rfl) (by kernel_rfl) (by kernel_rfl) ?hqr1_4 ?hyr1_4 ?restr1_4
  case hir1_4 => simp only [List.getElem?_toArray, List.getElem?_cons_succ, List.getElem?_cons_zero]; rfl
  case hqr1_4 => exact fun _ _ _ h => h
  case hyr1_4 => (refine Or.inl ⟨by rfl, ?_⟩; intro w; go_simp; all_goals with_reducible rfl)
  try simp only [Act.put, List.setIfInBounds_toArray, List.set_cons_zero, List.set_cons_succ]
  refine wpAny_take (i := 5) (oi := ?oir1_5) (v := ?vr1_5) ?hir1_5 (by kernel_rfl) (by kernel_rfl) (by kernel_rfl) ?hqr1_5 ?hyr1_5 ?restr1_5
  case hir1_5 => simp only [List.getElem?_toArray, List.getElem?_cons_succ, List.getElem?_cons_zero]; rfl
  case hqr1_5 => exact fun _ _ _ h => h
  case hyr1_5 => (refine Or.inl ⟨by rfl, ?_⟩; intro w; go_simp; all_goals with_reducible rfl)
  try simp only [Act.put, List.setIfInBounds_toArray, List.set_cons_zero, List.set_cons_succ]
  refine wpAny_take (i := 6) (oi := ?oir1_6) (v := ?vr1_6) ?hir1_6 (by kernel_rfl) (by kernel_rfl) (by kernel_rfl) ?hqr1_6 ?hyr1_6 ?restr1_6
  case hir1_6 => simp only [List.getElem?_toArray, List.getElem?_cons_succ, List.getElem?_cons_zero]; rfl
  case hqr1_6 => exact fun _ _ _ h => h
  case hyr1_6 => (refine Or.inl ⟨by rfl, ?_⟩; intro w; go_simp; all_goals with_reducible rfl)
  try simp only [Act.put, List.setIfInBounds_toArray, List.set_cons_zero, List.set_cons_succ]
  refine wpAny_take (i := 7) (oi := ?oir1_7) (v := ?vr1_7) ?hir1_7 (by kernel_rfl) (by kernel_rfl) (by kernel_rfl) ?hqr1_7 ?hyr1_7 ?restr1_7
  case hir1_7 => simp only [List.getElem?_toArray, List.getElem?_cons_succ, List.getElem?_cons_zero]; rfl
  case hqr1_7 => exact fun _ _ _ h => h
  case hyr1_7 => (refine Or.inl ⟨by rfl, ?_⟩; intro w; go_simp; all_goals with_reducible rfl)
  try simp only [Act.put, List.setIfInBounds_toArray, List.set_cons_zero, List.set_cons_succ]
  refine wpAny_ready (rs := [8]) (by kernel_rfl) (by simp) ?_
  refine (AllReady.cons (o := ?ob9_8) ?hob9_8 (fun K hK => ?kb9_8) AllReady.nil)
  case hob9_8 => simp only [List.getElem?_toArray, List.getElem?_cons_succ, List.getElem?_cons_zero]; rfl
  case kb9_8 =>
    rw [if_pos (by rfl)]
    refine op_copyV _ _ rfl rfl rfl HG.out (us := vs.drop i) (by show _ = min _ _; rw [List.length_drop, HLEN.out]; omega) HCP1.out (by rw [List.length_drop, HLEN.out, HL.out]; omega) ?_
    intro w1 hw1
    refine hK _ _ ?_
    clear hK K
    try simp only [Act.put, List.setIfInBounds_toArray, List.set_cons_zero, List.set_cons_succ]
    refine wpAny_done (by kernel_rfl) ?_ _
    have HB1 : Hid (Below base w w1) := Lib.hid (by rw [hw1.out]; exact below_setRow (Below.refl base w).drew hgb _)
    have HG1 : Hid (w1.heap[g]? = some (.cells (splice L ((i + 1) * 3) (vflat (vs.drop i))).toArray 32 (0, 0))) := Lib.hid (by rw [hw1.out]; exact setRow_heap _ _ _ _ _ _ HG.out)
    have HC2 : Hid (∀ j u, (vflat [v])[j]? = some u → w1.cell? ⟨gv, 0 + j, none⟩ = some u) := Lib.hid fun j u hj => by
      have : w1.heap[gv]? = some (.cells (vcells v).toArray 32 (0, 0)) := by rw [hw1.out, setRow_other _ _ _ _ hgv]; exact HW.out
      rw [cell_of_row w1 gv _ _ _ _ this, Nat.zero_add]
      simpa [vflat] using hj
    have HL1 : Hid ((splice L ((i + 1) * 3) (vflat (vs.drop i))).length = L.length) := Lib.hid (length_splice _ _ _ (by rw [vflat_length, List.length_drop, HLEN.out, HL.out]; omega))
    clear hw1 HCP1 HG HW
    have hcp := fun ty => run_copyV w1 ty g (i * 3) (n + 1 - i) (cap - i) gv 0 1 1 _ _ [v] HG1.out (by show 1 = min _ _; omega) HC2.out (by rw [HL1.out, HL.out]; show _ + 1 * 3 ≤ _; omega)
    obtain ⟨w2, hw2⟩ : ∃ w2, w2 = w1.setRow g (splice (splice L ((i + 1) * 3) (vflat (vs.drop i))) (i * 3) (vflat [v])).toArray := ⟨_, rfl⟩
    rw [← hw2] at hcp
    replace hw2 := Lib.hid hw2
    have HO : Hid (OwV base w2 (some ⟨g, 0, none⟩) (n + 1) cap R) := Lib.hid (by
      rw [hw2.out, hR.out]
      refine owV_of (setRow_heap _ _ _ _ _ _ HG1.out) hgb (by rw [insert_len _ _ _ (by rw [HLEN.out]; omega), HLEN.out]) hroom hmax ?_ ?_ HWF.out
      · rw [length_splice _ _ _ (by rw [HL1.out, HL.out]; show _ + 1 * 3 ≤ _; omega), HL1.out, HL.out]
      · have := HD.out.1
        rw [vflat_append, vflat_append, ← this, vflat_length, List.length_drop, HLEN.out, show i * 3 + 3 + (n - i) * 3 = (n + 1) * 3 by omega, show (i + 1) * 3 = i * 3 + 3 by omega])
    have HB2 : Hid (Below base w w2) := Lib.hid (by rw [hw2.out]; exact below_setRow HB1.out hgb _)
    clear hw2
    go_wp2_with fail
    go_ret
    exact ⟨_, _, rfl, HO.out, HB2.out⟩

set_option maxRecDepth 100000 in
set_option maxHeartbeats 8000000 in
/-- There is no room. -/
theorem insert_grow (w : World) (base : Nat) {g n cap i : Nat} {vs : List VQ} (h : OwV base w (some ⟨g, 0, none⟩) n cap vs) (hn : n ≤ 1099511627776) (hi : i < n) (hroom : cap < n + 1) (hbase : base ≤ w.heap.size) {gv : Nat} {v : VQ} (hv : VW v) (hw : w.heap[gv]? = some (.cells (vcells v).toArray 32 (0, 0))) {R : List VQ} (hR : Hid (R = vs.take i ++ [v] ++ vs.drop i)) :
    Calls Try.prog 43 #[.slice (some ⟨g, 0, none⟩) n cap, .int .i64 (i : Nat), .slice (some ⟨gv, 0, none⟩) 1 1] w (RetI base w (n + 1) R) := by
  obtain ⟨g', cur, e, hgb, hg, hnc, hmax, hsz, hcur⟩ := h.row (by omega)
  obtain rfl : g = g' := by simpa using e
  have hlen := h.len
  have HWF := Lib.hid (insert_wf (i := i) h.wf hv)
  have hcap : cap ≤ 9223372036854775807 := by unfold maxLen at hmax; omega
  obtain ⟨ti, hti, hz, h3, hby⟩ := infoV
  have hik : i + (n + 1 - i) = n + 1 := by omega
  have hold : (Builtin.firstCells ti.size i (.slice (some ⟨g, 0, none⟩) i cap)).run Try.prog w.drew = .ok (vflat (vs.take i)).toArray w.drew := by
    rw [h3]
    refine run_firstCells_some w.drew 3 i ⟨g, 0, none⟩ i cap (vflat (vs.take i)) (by rw [vflat_length, List.length_take, hlen, Nat.min_eq_left (by omega)]) (fun j u hj => ?_)
    have ea : (⟨g, 0, none⟩ : Addr).add j = ⟨g, j, none⟩ := by unfold Addr.add; split <;> simp_all
    rw [ea, cell_of_row w.drew g _ _ _ _ hg]
    refine hcur _ _ ?_
    rw [← vflat_take, List.getElem?_take] at hj
    split at hj
    · exact hj
    · cases hj
  have hrun := fun ty => Lib.run_append_grow_zeros w 22 3 ty 32 ti _ .i64 .i64 Try.underlying22 Try.underlying3 hti hz (some ⟨g, 0, none⟩) i cap _ hold (n + 1 - i) (by omega) (by omega) (by omega) (by omega) (by rw [hby]; omega) (by rw [hby, hik]; exact growslice_fits hroom (by omega))
  simp only [hik] at hrun
  obtain ⟨C, hC⟩ : ∃ C, grownCap w (n + 1) cap 32 = C := ⟨_, rfl⟩
  have hC1 : n + 1 ≤ C := by rw [← hC]; exact grownCap_ge _ _ _ _
  have hC2 : C ≤ maxLen := by rw [← hC]; exact grownCap_le_maxLen _ _ _ _ (by unfold maxLen; omega)
  rw [hC] at hrun
  clear hC hold
  obtain ⟨N, hN⟩ : ∃ N, w.heap.size = N := ⟨_, rfl⟩
  obtain ⟨L, hL0⟩ : ∃ L : List Value, (vflat (vs.take i)).toArray ++ Builtin.zeroCells (Value.agg #[.string ⟨#[]⟩, .int .i64 0, .int .u8 0]).cells (n + 1 - i) ++ Builtin.zeroCells (Value.agg #[.string ⟨#[]⟩, .int .i64 0, .int .u8 0]).cells (C - (n + 1)) = L.toArray := ⟨_, (Array.toArray_toList (xs := _)).symm⟩
  have hL : L.length = C * 3 := by
    have := congrArg Array.size hL0
    simp only [Array.size_append, List.size_toArray, vflat_length, List.length_take, hlen, size_zeroCells] at this
    rw [← this, Nat.min_eq_left (by omega), show (Value.agg #[.string ⟨#[]⟩, .int .i64 0, .int .u8 0]).cells.size = 3 by decide]
    omega
  have hT : L.take (i * 3) = vflat (vs.take i) := by
    have := congrArg Array.toList hL0
    simp only [Array.toList_append] at this
    rw [← this, List.append_assoc, List.take_append_of_le_length (by simp [vflat_length, hlen]; omega), List.take_of_length_le (by simp [vflat_length, hlen]; omega)]
  rw [hL0] at hrun
  clear hL0
  have HD := Lib.hid (splice_down (L := L) (T := vflat (vs.take i)) (V := vflat [v]) (D := vflat (vs.drop i)) hT (by rw [vflat_length, List.length_take]; omega) rfl (by rw [vflat_length, List.length_drop]; omega))
  have HCP : Hid (∀ j u, (vflat (vs.drop i))[j]? = some u → w.cell? ⟨g, i * 3 + j, none⟩ = some u) := Lib.hid fun j u hj => by
    rw [vflat_drop_at, if_pos (by omega)] at hj
    rw [cell_of_row w g _ _ _ _ hg]
    exact hcur _ _ hj
  have hgl : g < w.heap.size := (Array.getElem?_eq_some_iff.1 hg).1
  have hvl : gv < w.heap.size := (Array.getElem?_eq_some_iff.1 hw).1
  have HCV : Hid (∀ j u, (vflat [v])[j]? = some u → w.cell? ⟨gv, 0 + j, none⟩ = some u) := Lib.hid fun j u hj => by
    rw [cell_of_row w gv _ _ _ _ hw, Nat.zero_add]
    simpa [vflat] using hj
  have HLEN := Lib.hid hlen
  have HL := Lib.hid hL
  have hcC : C ≤ 9223372036854775807 := by unfold maxLen at hC2; omega
  have q1 : IntKind.i64.wrap ((i : Int) + 1) = (i : Int) + 1 := by rw [IntKind.wrap_i64]; omega
  have q2 : (0 : Int) ≤ (i : Int) + 1 := by omega
  have q3 : (i : Int) + 1 ≤ (n : Int) + 1 := by omega
  have q4 : ((i : Int) + 1).toNat = i + 1 := by omega
  have q5 : ¬ C = i + 1 := by omega
  have q6 : ¬ C = i := by omega
  have q7 : (i : Int) ≤ (n : Int) + 1 := by omega
  have q8 : ¬ cap = i := by omega
  have q9 : i ≤ n := by omega
  rw [hN] at hrun
  have HN := Lib.hid hN
  clear hN hsz hcur hT hg hw hL hlen h hti hz h3 hby
  go_enter Try.func43, Try.ntmps43
  go_wp2_with (at_builtin; refine wpList_appH rfl _ _ _ _ rfl _ _ rfl (by simp [Act.eval, Act.put]; omega) _ _ hrun ?_; intro wA hwA; refine Hid.out ?_)
  have HGA : Hid (wA.heap[N]? = some (.cells L.toArray 32 (0, 0))) := Lib.hid (by rw [hwA.out, ← HN.out]; exact heap_alloc_new _ _)
  have HCPA : Hid (∀ j u, (vflat (vs.drop i))[j]? = some u → wA.cell? ⟨g, i * 3 + j, none⟩ = some u) := Lib.hid fun j u hj => by
    rw [hwA.out]
    exact cell_below ((Below.refl w.heap.size w).drew.alloc (Nat.le_refl _) _) (HCP.out j u hj)
  have HCVA : Hid (∀ j u, (vflat [v])[j]? = some u → wA.cell? ⟨gv, 0 + j, none⟩ = some u) := Lib.hid fun j u hj => by
    rw [hwA.out]
    exact cell_below ((Below.refl w.heap.size w).drew.alloc (Nat.le_refl _) _) (HCV.out j u hj)
  have HBA : Hid (Below base w wA) := Lib.hid (by rw [hwA.out]; exact (Below.refl base w).drew.alloc hbase _)
  have hgN : g ≠ N := by have := HN.out; omega
  have HL1 : Hid ((splice L (i * 3) (vflat [v])).length = L.length) := Lib.hid (length_splice _ _ _ (by rw [HL.out]; show _ + 1 * 3 ≤ _; omega))
  have hNb : base ≤ N := by have := HN.out; omega
  clear hwA HCP HCV hrun
  have hcp := fun ty => run_copyV wA ty N (i * 3) (n + 1 - i) (C - i) gv 0 1 1 _ _ [v] HGA.out (by show 1 = min _ _; omega) HCVA.out (by rw [HL.out]; show _ + 1 * 3 ≤ _; omega)
  obtain ⟨w1, hw1⟩ : ∃ w1, w1 = wA.setRow N (splice L (i * 3) (vflat [v])).toArray := ⟨_, rfl⟩
  rw [← hw1] at hcp
  replace hw1 := Lib.hid hw1
  have HG1 : Hid (w1.heap[N]? = some (.cells (splice L (i * 3) (vflat [v])).toArray 32 (0, 0))) := Lib.hid (by rw [hw1.out]; exact setRow_heap _ _ _ _ _ _ HGA.out)
  have HC1 : Hid (∀ j u, (vflat (vs.drop i))[j]? = some u → w1.cell? ⟨g, i * 3 + j, none⟩ = some u) := Lib.hid fun j u hj => by
    have := HCPA.out j u hj
    rw [hw1.out]
    simp only [World.cell?, setRow_other _ _ _ _ hgN] at this ⊢
    exact this
  have HB1 : Hid (Below base w w1) := Lib.hid (by rw [hw1.out]; exact below_setRow HBA.out hNb _)
  clear hw1 HCVA HCPA HGA HBA
  refine Lib.hid ?_
  go_wp2_with fail
  refine wp_region_any (by kernel_rfl) ?_
  change wpAny _ _ _ _ _ _ _ (World.drew _)
  refine wpAny_take (i := 0) (oi := ?oir3_0) (v := ?vr3_0) ?hir3_0 (by kernel_rfl) (by kernel_rfl) (by kernel_rfl) ?hqr3_0 ?hyr3_0 ?restr3_0
  case hir3_0 => simp only [List.getElem?_toArray, List.getElem?_cons_succ, List.getElem?_cons_zero]; rfl
  case hqr3_0 => exact fun _ _ _ h => h
  case hyr3_0 => (refine Or.inl ⟨by rfl, ?_⟩; intro w; go_simp; all_goals with_reducible rfl)
  try simp only [Act.put, List.setIfInBounds_toArray, List.set_cons_zero, List.set_cons_succ]
  refine wpAny_take (i := 1) (oi := ?oir3_1) (v := ?vr3_1) ?hir3_1 (by kernel_rfl) (by kernel_rfl) (by kernel_rfl) ?hqr3_1 ?hyr3_1 ?restr3_1
  case hir3_1 => simp only [List.getElem?_toArray, List.getElem?_cons_succ, List.getElem?_cons_zero]; rfl
  case hqr3_1 => exact fun _ _ _ h => h
  case hyr3_1 => (refine Or.inl ⟨by rfl, ?_⟩; intro w; go_simp; all_goals with_reducible rfl)
  try simp only [Act.put, List.setIfInBounds_toArray, List.set_cons_zero, List.set_cons_succ]
  refine wpAny_take (i := 2) (oi := ?oir3_2) (v := ?vr3_2) ?hir3_2 (by kernel_rfl) (by kernel_rfl) (by kernel_rfl) ?hqr3_2 ?hyr3_2 ?restr3_2
  case hir3_2 => simp only [List.getElem?_toArray, List.getElem?_cons_succ, List.getElem?_cons_zero]; rfl
  case hqr3_2 => exact fun _ _ _ h => h
  case hyr3_2 => (refine Or.inl ⟨by rfl, ?_⟩; intro w; go_simp; all_goals with_reducible rfl)
  try simp only [Act.put, List.setIfInBounds_toArray, List.set_cons_zero, List.set_cons_succ]
  refine wpAny_take (i := 3) (oi := ?oir3_3) (v := ?vr3_3) ?hir3_3 (by kernel_rfl) (by kernel_rfl) (by kernel_rfl) ?hqr3_3 ?hyr3_3 ?restr3_3
  case hir3_3 => simp only [List.getElem?_toArray, List.getElem?_cons_succ, List.getElem?_cons_zero]; rfl
  case hqr3_3 => exact fun _ _ _ h => h
  case hyr3_3 => (refine Or.inl ⟨by rfl, ?_⟩; intro w; go_simp; all_goals with_reducible rfl)
  try simp only [Act.put, List.setIfInBounds_toArray, List.set_cons_zero, List.set_cons_succ]
  refine wpAny_take (i := 4) (oi := ?oir3_4) (v := ?vr3_4) ?hir3_4 (by kernel_rfl) (by kernel_rfl) (by kernel_rfl) ?hqr3_4 ?hyr3_4 ?restr3_4
  case hir3_4 => simp only [List.getElem?_toArray, List.getElem?_cons_succ, List.getElem?_cons_zero]; rfl
  case hqr3_4 => exact fun _ _ _ h => h
  case hyr3_4 => (refine Or.inl ⟨by rfl, ?_⟩; intro w; go_simp; all_goals with_reducible rfl)
  try simp only [Act.put, List.setIfInBounds_toArray, List.set_cons_zero, List.set_cons_succ]
  refine wpAny_take (i := 5) (oi := ?oir3_5) (v := ?vr3_5) ?hir3_5 (by kernel_rfl) (by kernel_rfl) (by kernel_rfl) ?hqr3_5 ?hyr3_5 ?restr3_5
  case hir3_5 => simp only [List.getElem?_toArray, List.getElem?_cons_succ, List.getElem?_cons_zero]; rfl
  case hqr3_5 => exact fun _ _ _ h => h
  case hyr3_5 => (refine Or.inl ⟨by rfl, ?_⟩; intro w; go_simp; all_goals with_reducible rfl)
  try simp only [Act.put, List.setIfInBounds_toArray, List.set_cons_zero, List.set_cons_succ]
  refine wpAny_take (i := 6) (oi := ?oir3_6) (v := ?vr3_6) ?hir3_6 (by kernel_rfl) (by kernel_rfl) (by kernel_rfl) ?hqr3_6 ?hyr3_6 ?restr3_6
  case hir3_6 => simp only [List.getElem?_toArray, List.getElem?_cons_succ, List.getElem?_cons_zero]; rfl
  case hqr3_6 => exact fun _ _ _ h => h
  case hyr3_6 => (refine Or.inl ⟨by rfl, ?_⟩; intro w; go_simp; all_goals with_reducible rfl)
  try simp only [Act.put, List.setIfInBounds_toArray, List.set_cons_zero, List.set_cons_succ]
  refine wpAny_take (i := 7) (oi := ?oir3_7) (v := ?vr3_7) ?hir3_7 (by kernel_rfl) (by kernel_rfl) (by kernel_rfl) ?hqr3_7 ?hyr3_7 ?restr3_7
  case hir3_7 => simp only [List.getElem?_toArray, List.getElem?_cons_succ, List.getElem?_cons_zero]; rfl
  case hqr3_7 => exact fun _ _ _ h => h
  case hyr3_7 => (refine Or.inl ⟨by rfl, ?_⟩; intro w; go_simp; all_goals with_reducible rfl)
  try simp only [Act.put, List.setIfInBounds_toArray, List.set_cons_zero, List.set_cons_succ]
  refine wpAny_ready (rs := [8]) (by kernel_rfl) (by simp) ?_
  refine (AllReady.cons (o := ?ob9_8) ?hob9_8 (fun K hK => ?kb9_8) AllReady.nil)
  case hob9_8 => simp only [List.getElem?_toArray, List.getElem?_cons_succ, List.getElem?_cons_zero]; rfl
  case kb9_8 =>
    rw [if_pos (by rfl)]
    refine op_copyV _ _ rfl rfl rfl HG1.out (us := vs.drop i) (by show _ = min _ _; rw [List.length_drop, HLEN.out]; omega) HC1.out (by rw [HL1.out, HL.out, List.length_drop, HLEN.out]; omega) ?_
    intro w2 hw2
    refine hK _ _ ?_
    clear hK K
    try simp only [Act.put, List.setIfInBounds_toArray, List.set_cons_zero, List.set_cons_succ]
    refine wpAny_done (by kernel_rfl) ?_ _
    have HO : Hid (OwV base w2 (some ⟨N, 0, none⟩) (n + 1) C R) := Lib.hid (by
      rw [hw2.out, hR.out]
      refine owV_of (setRow_heap _ _ _ _ _ _ HG1.out) hNb (by rw [insert_len _ _ _ (by rw [HLEN.out]; omega), HLEN.out]) hC1 hC2 ?_ ?_ HWF.out
      · rw [length_splice _ _ _ (by rw [HL1.out, HL.out, vflat_length, List.length_drop, HLEN.out]; omega), HL1.out, HL.out]
      · have := HD.out.2
        rw [vflat_append, vflat_append, ← this, vflat_length, List.length_drop, HLEN.out, show i * 3 + 3 + (n - i) * 3 = (n + 1) * 3 by omega, show (i + 1) * 3 = i * 3 + 3 by omega])
    have HB2 : Hid (Below base w w2) := Lib.hid (by rw [hw2.out]; exact below_setRow HB1.out.drew hNb _)
    clear hw2
    go_wp2_with fail
    go_ret
    exact ⟨_, _, rfl, HO.out, HB2.out⟩

/-- All roads. -/
theorem Insert_any (w : World) (base : Nat) {a : Option Addr} {n cap i : Nat} {vs : List VQ} (h : OwV base w a n cap vs) (hn : n ≤ 1099511627776) (hi : i ≤ n) (hbase : base ≤ w.heap.size) {gv : Nat} {v : VQ} (hv : VW v) (hgv : ∀ p, a = some p → gv ≠ p.block) (hw : w.heap[gv]? = some (.cells (vcells v).toArray 32 (0, 0))) :
    Calls Try.prog 43 #[.slice a n cap, .int .i64 (i : Nat), .slice (some ⟨gv, 0, none⟩) 1 1] w (RetI base w (n + 1) (vs.take i ++ [v] ++ vs.drop i)) := by
  by_cases hin : i = n
  · subst hin
    have e : vs.take i ++ [v] ++ vs.drop i = vs ++ [v] := by rw [← h.len, List.take_length, List.drop_length, List.append_nil]
    rw [e]
    refine insert_end w base h hn hbase (rdV_row (vs := [v]) rfl hw (Nat.le_refl _) (by decide) (fun j u hj => by simpa [vflat] using hj) (fun x hx => by simp at hx; subst hx; exact hv))
  · obtain ⟨g, cur, rfl, -⟩ := h.row (by omega)
    by_cases hr : n + 1 ≤ cap
    · exact insert_room w base h hn (by omega) hr hv (hgv _ rfl) hw (Lib.hid rfl)
    · exact insert_grow w base h hn (by omega) (by omega) hbase hv hw (Lib.hid rfl)

end Go.Proofs.Ytnjkfjecnicccaa
