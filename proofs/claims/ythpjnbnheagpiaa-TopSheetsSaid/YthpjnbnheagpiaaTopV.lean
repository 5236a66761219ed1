/- slices.Insert at rows of a profile, cell by cell. Condition: at most 2^40 rows. Printed by gen_topv.py. -/
import Derived.Test.YthpjnbnheagpiaaTopI
import Derived.Laws.AppendOwnNone
import Derived.Laws.CopyOwn
import Derived.Lib.Overlaps
import Derived.Lib.AppendZerosOnto
namespace Go.Proofs.Ythpjnbnheagpiaa
open Go.RowKit Go.Suf
set_option linter.unusedVariables false
set_option linter.unusedSimpArgs false

/-- Two cells. -/
structure PV where
  u : Value
  v : Value
  hu : u.oneCell' = true
  hv : v.oneCell' = true
def PVW (_ : PV) : Prop := True
def pth (vs : List PV) (i : Nat) : PV := vs.getD i ⟨.int .i64 0, .int .i64 0, rfl, rfl⟩
theorem pth_mem {l : List PV} {i : Nat} (h : i < l.length) : pth l i ∈ l := by simp [pth, h]
abbrev pcl (p : PV) : List Value := [p.u, p.v]
structure RdP (w : World) (a : Option Addr) (n cap : Nat) (vs : List PV) : Prop where
  len : vs.length = n
  le : n ≤ cap
  max : cap ≤ maxLen
  nil : a = none → cap = 0
  cell : ∀ i, i < n → ∃ b off, a = some ⟨b, off, none⟩ ∧ w.cell? ⟨b, off + i * 2, none⟩ = some (pth vs i).u ∧ w.cell? ⟨b, off + i * 2 + 1, none⟩ = some (pth vs i).v
  wf : ∀ v ∈ vs, PVW v
def pfl (vs : List PV) : List Value := vs.flatMap pcl
theorem pfl_length (vs : List PV) : (pfl vs).length = vs.length * 2 := by
  induction vs with
  | nil => rfl
  | cons v vs ih =>
    show (pcl v ++ pfl vs).length = _
    rw [List.length_append, ih]
    simp [pcl]
    omega
theorem pfl_append (us vs : List PV) : pfl (us ++ vs) = pfl us ++ pfl vs := by simp [pfl]
theorem pfl_at : ∀ (vs : List PV) (i : Nat), i < vs.length → ∀ j, j < 2 → (pfl vs)[i * 2 + j]? = (pcl (pth vs i))[j]?
  | [], i, h, _, _ => by simp at h
  | v :: vs, 0, _, j, hj => by
    show (pcl v ++ pfl vs)[0 * 2 + j]? = _
    rw [Nat.zero_mul, Nat.zero_add, List.getElem?_append_left (by simpa [pcl] using hj)]
    rfl
  | v :: vs, i + 1, h, j, hj => by
    show (pcl v ++ pfl vs)[(i + 1) * 2 + j]? = _
    rw [List.getElem?_append_right (by simp [pcl]; omega), show (i + 1) * 2 + j - (pcl v).length = i * 2 + j by simp [pcl]; omega]
    exact pfl_at vs i (by simpa using h) j hj
theorem pfl_one (vs : List PV) : ∀ u ∈ pfl vs, u.oneCell' = true := by
  intro u hu
  obtain ⟨v, _, hv⟩ := List.mem_flatMap.1 hu
  simp [pcl] at hv
  rcases hv with rfl | rfl
  · exact v.hu
  · exact v.hv
theorem pfl_some {vs : List PV} {j : Nat} {u : Value} (h : (pfl vs)[j]? = some u) : j / 2 < vs.length ∧ (pcl (pth vs (j / 2)))[j % 2]? = some u := by
  have hj : j < vs.length * 2 := by
    rw [← pfl_length]
    exact (List.getElem?_eq_some_iff.1 h).1
  have h1 : j / 2 < vs.length := by omega
  refine ⟨h1, ?_⟩
  rw [← pfl_at vs (j / 2) h1 (j % 2) (by omega), show j / 2 * 2 + j % 2 = j by omega]
  exact h

/-- A row of pairs of the call's own. -/
structure OwP (base : Nat) (w : World) (a : Option Addr) (n cap : Nat) (vs : List PV) : Prop where
  len : vs.length = n
  own : w.ownsRow base 92 2 (.slice a n cap) n (pfl vs)
  wf : ∀ v ∈ vs, PVW v

theorem OwP.below {base : Nat} {w w' : World} {a : Option Addr} {n cap : Nat} {vs : List PV} (h : OwP base w a n cap vs) (hb : Below w.heap.size w w') : OwP base w' a n cap vs :=
  ⟨h.len, h.own.kept (row := none) ⟨hb.os, hb.tape, hb.output, hb.size, fun k hk _ => hb.block k hk⟩ (by cases (Value.slice a n cap).ownBlock <;> simp), h.wf⟩

theorem OwP.nil (base : Nat) (w : World) : OwP base w none 0 0 [] := ⟨rfl, World.ownsRow_nil w base _ 2, fun v h => by simp at h⟩

theorem OwP.base_le {base base' : Nat} {w : World} {a : Option Addr} {n cap : Nat} {vs : List PV} (h : OwP base w a n cap vs) (hb : base' ≤ base) : OwP base' w a n cap vs := by
  refine ⟨h.len, ⟨h.own.1, ?_⟩, h.wf⟩
  rcases h.own.2 with h2 | ⟨g, c, cur, hv, hg, r⟩
  · exact .inl h2
  · exact .inr ⟨g, c, cur, hv, by omega, r⟩

/-- The block of an own row. -/
theorem OwP.row {base : Nat} {w : World} {a : Option Addr} {n cap : Nat} {vs : List PV} (h : OwP base w a n cap vs) (hp : 0 < n) :
    ∃ g cur, a = some ⟨g, 0, none⟩ ∧ base ≤ g ∧ w.heap[g]? = some (.cells cur 92 (0, 0)) ∧ n ≤ cap ∧ cap ≤ maxLen ∧ cur.size = cap * 2 ∧ ∀ (j : Nat) (u : Value), (pfl vs)[j]? = some u → cur[j]? = some u := by
  rcases h.own.2 with ⟨hv, hn⟩ | ⟨g, cap', cur, hv, hg, hh, hnc, hm, hsz, htake⟩
  · omega
  · simp at hv
    obtain ⟨rfl, rfl⟩ := hv
    refine ⟨g, cur, rfl, hg, hh, hnc, hm, hsz, fun j u hu => ?_⟩
    rw [← htake] at hu
    have hj := (List.getElem?_eq_some_iff.1 hu).1
    rw [List.getElem?_take_of_lt (by simp at hj; omega)] at hu
    simpa using hu

theorem rdP_row {w : World} {g cap n : Nat} {cur : Array Value} {vs : List PV} {t : TypeId} {f : Nat × Nat} (hl : vs.length = n) (hh : w.heap[g]? = some (.cells cur t f)) (hc : n ≤ cap) (hm : cap ≤ maxLen) (h : ∀ (j : Nat) (u : Value), (pfl vs)[j]? = some u → cur[j]? = some u) (hw : ∀ v ∈ vs, PVW v) : RdP w (some ⟨g, 0, none⟩) n cap vs := by
  refine ⟨hl, hc, hm, fun e => by simp at e, fun i hi => ⟨g, 0, rfl, ?_⟩, hw⟩
  have at' : ∀ (j : Nat) (u : Value), (pcl (pth vs i))[j]? = some u → j < 2 → w.cell? ⟨g, i * 2 + j, none⟩ = some u := fun j u hu hj => by
    rw [cell_of_row _ _ _ _ _ _ hh]
    exact h _ _ (by rw [pfl_at vs i (by omega) j hj]; exact hu)
  simp only [Nat.zero_add]
  exact ⟨at' 0 _ rfl (by omega), at' 1 _ rfl (by omega)⟩

theorem OwP.rd {base : Nat} {w : World} {a : Option Addr} {n cap : Nat} {vs : List PV} (h : OwP base w a n cap vs) : RdP w a n cap vs := by
  rcases Nat.eq_zero_or_pos n with h0 | hp
  · subst h0
    have hx : vs = [] := List.eq_nil_of_length_eq_zero h.len
    subst hx
    rcases h.own.2 with ⟨hv, hn⟩ | ⟨g, cap', cur, hv, hg, hh, hnc, hm, hsz, htake⟩
    · simp at hv
      obtain ⟨rfl, rfl⟩ := hv
      exact ⟨rfl, Nat.le_refl _, Nat.zero_le _, fun _ => rfl, fun i hi => absurd hi (by omega), h.wf⟩
    · simp at hv
      obtain ⟨rfl, rfl⟩ := hv
      exact ⟨rfl, hnc, hm, fun e => by simp at e, fun i hi => absurd hi (by omega), h.wf⟩
  · obtain ⟨g, cur, rfl, _, hh, hc, hm, _, hcur⟩ := h.row hp
    exact rdP_row h.len hh hc hm hcur h.wf

theorem infoP : ∃ i, Try.prog.info? 92 = some i ∧ i.zero = some (.agg #[.slice none 0 0, .int .i64 0]) ∧ i.size = 2 ∧ i.bytes = 32 := by
  have h : (Try.prog.info? 92).map (fun i => (i.zero, i.size, i.bytes)) = some (some (.agg #[.slice none 0 0, .int .i64 0]), 2, 32) := by kernel_rfl
  cases hq : Try.prog.info? 92 with
  | none => simp [hq] at h
  | some i =>
    simp [hq] at h
    exact ⟨i, rfl, h.1, h.2.1, h.2.2⟩

/-- 'append(s, x...)' of pairs: s the call's own, x whatever reads. -/
theorem wpList_appP {ops : Array Oper} {rest : List Oper} {o : Oper} {a : Act} {w : World} {Q : Exit → Act → World → Prop} (hgd : o.guard = none) (s x : Operand)
    (ho : o.op = .call { callee := .builtin .append, args := #[s, x], argTypes := #[49, 49] })
    (base : Nat) {a1 : Option Addr} {n1 cap1 : Nat} {vs : List PV} (hs : a.eval s = .slice a1 n1 cap1) (hown : OwP base w a1 n1 cap1 vs)
    {a2 : Option Addr} {n2 cap2 : Nat} {us : List PV} (hx : a.eval x = .slice a2 n2 cap2) (hr : RdP w a2 n2 cap2 us)
    (hm : n1 + n2 ≤ 2199023255552) (hbase : base ≤ w.heap.size)
    (h : ∀ a' cap' w', OwP base w' a' (n1 + n2) cap' (vs ++ us) → w.grownBy w' (Value.ownBlock (.slice a1 n1 cap1)) → Below base w w' →
      wpList Try.prog ops Q rest (a.put o.dst (.slice a' (n1 + n2) cap')) w') : wpList Try.prog ops Q (o :: rest) a w := by
  obtain ⟨i, hi, hz, h1, hby⟩ := infoP
  have below : ∀ {w'}, w.grownBy w' (Value.ownBlock (.slice a1 n1 cap1)) → Below base w w' := fun hg =>
    (Below.refl base w).grown hg hbase (fun k hk => (hown.own.lt k hk).1)
  have wf : ∀ v ∈ vs ++ us, PVW v := fun v hv => by
    rcases List.mem_append.1 hv with h | h
    · exact hown.wf v h
    · exact hr.wf v h
  have hlen : (vs ++ us).length = n1 + n2 := by rw [List.length_append, hown.len, hr.len]
  cases a2 with
  | none =>
    have hc := hr.nil rfl
    subst hc
    have hn : n2 = 0 := Nat.le_zero.1 hr.le
    subst hn
    have hd : us = [] := List.eq_nil_of_length_eq_zero hr.len
    subst hd
    refine wpList_append_own_none hgd s x 49 ho base 92 i 2 Try.underlying49 hi _ n1 (pfl vs) hs hown.own hx ?_
    have := h a1 cap1 w (by simpa using hown) ⟨rfl, rfl, rfl, Nat.le_refl _, fun _ _ _ => rfl⟩ (Below.refl _ _)
    simpa using this
  | some ad =>
    refine wpList_append_own w hgd s x 49 ho base 92 i _ 2 32 Try.underlying49 hi hz h1 hby rfl (by decide) _ n1 (pfl vs) hs hown.own ad n2 cap2 (pfl us) hx (by rw [pfl_length, hr.len]) (fun j u hu => ?_) (pfl_one us) (by unfold maxLen; omega) (by omega) hbase ?_
    · obtain ⟨hj1, hj2⟩ := pfl_some hu
      obtain ⟨b, off, e, k0, k1⟩ := hr.cell (j / 2) (by rw [← hr.len]; exact hj1)
      simp only [Option.some.injEq] at e
      subst e
      have ea : (⟨b, off, none⟩ : Addr).add j = ⟨b, off + j, none⟩ := by unfold Addr.add; split <;> simp_all
      rw [ea]
      have h3 : j % 2 = 0 ∨ j % 2 = 1 := by omega
      rcases h3 with h3 | h3 <;> rw [h3] at hj2 <;> simp [pcl] at hj2 <;> subst hj2
      · rw [show off + j = off + j / 2 * 2 by omega]; exact k0
      · rw [show off + j = off + j / 2 * 2 + 1 by omega]; exact k1
    · intro v' w' hown' hg _
      rw [← pfl_append] at hown'
      rcases hown'.2 with ⟨hv, hn⟩ | ⟨g, cap', cur, hv, _⟩
      · subst hv
        have hn0 : n1 + n2 = 0 := hn
        have h' := h none 0 w' ⟨hlen, by rw [hn0] at hown' ⊢; exact hown', wf⟩ hg (below hg)
        rw [hn0] at h'
        exact h'
      · subst hv
        exact h _ _ w' ⟨hlen, hown', wf⟩ hg (below hg)

theorem run_copyP (w : World) (ty : TypeId) (g o dLen dCap : Nat) (b p sLen sCap : Nat) (L : List Value) (t : TypeId) (us : List PV)
    (hg : w.heap[g]? = some (.cells L.toArray t (0, 0))) (hn : us.length = Nat.min sLen dLen)
    (hsrc : ∀ j v, (pfl us)[j]? = some v → w.cell? ⟨b, p + j, none⟩ = some v) (hfit : o + us.length * 2 ≤ L.length) :
    (Builtin.copy_ #[49, 49] ty #[.slice (some ⟨g, o, none⟩) dLen dCap, .slice (some ⟨b, p, none⟩) sLen sCap]).run Try.prog w =
      .ok (goInt us.length) (w.setRow g (splice L o (pfl us)).toArray) := by
  obtain ⟨i, hi, hz, h3, -⟩ := infoP
  have hl := run_loadCells_list (P := Try.prog) w ⟨b, p, none⟩ (pfl us) (fun j v hj => by
    have ea : (⟨b, p, none⟩ : Addr).add j = ⟨b, p + j, none⟩ := by unfold Addr.add; split <;> simp_all
    rw [ea]; exact hsrc j v hj)
  have hst := run_storeCells_at Try.prog g o t (pfl us) 0 L.toArray w hg (by rw [pfl_length]; simpa using hfit) (pfl_one us)
  rw [pfl_length] at hl hst
  simp [Builtin.copy_, run_underlying Try.underlying49, Builtin.lenOf, Builtin.firstCells, sizeOf, typeInfo, hi, h3, ← hn, hl, hst, splice, pfl_length]

/-- 'copy' as one operation. -/
theorem op_copyP {o : Oper} {a : Act} {w : World} {K : Act → World → Prop} {Q : Exit → Act → World → Prop} (d s : Operand)
    (ho : o.op = .call { callee := .builtin .copy, args := #[d, s], argTypes := #[49, 49] })
    {g off dLen dCap b p sLen sCap : Nat} (hd : a.eval d = .slice (some ⟨g, off, none⟩) dLen dCap) (hs : a.eval s = .slice (some ⟨b, p, none⟩) sLen sCap)
    {L : List Value} {t : TypeId} {us : List PV} (hg : w.heap[g]? = some (.cells L.toArray t (0, 0))) (hn : us.length = Nat.min sLen dLen)
    (hsrc : ∀ j v, (pfl us)[j]? = some v → w.cell? ⟨b, p + j, none⟩ = some v) (hfit : off + us.length * 2 ≤ L.length)
    (h : ∀ w', Hid (w' = w.setRow g (splice L off (pfl us)).toArray) → K (a.put o.dst (goInt us.length)) w') : o.wp Try.prog a w K Q := by
  have hr := run_copyP w o.type g off dLen dCap b p sLen sCap L t us hg hn hsrc hfit
  unfold Oper.wp execOp
  simp only [ho, resolve, invoke, builtin, Sem.run_bind, Sem.run_pure, Result.andThen_ok, List.map_toArray, List.map_cons, List.map_nil, hd, hs, hr]
  exact h _ (Lib.hid rfl)

theorem wpList_copyP {ops : Array Oper} {rest : List Oper} {o : Oper} {a : Act} {w : World} {Q : Exit → Act → World → Prop} (hgd : o.guard = none) (d s : Operand)
    (ho : o.op = .call { callee := .builtin .copy, args := #[d, s], argTypes := #[49, 49] })
    {g off dLen dCap b p sLen sCap : Nat} (hd : a.eval d = .slice (some ⟨g, off, none⟩) dLen dCap) (hs : a.eval s = .slice (some ⟨b, p, none⟩) sLen sCap)
    {L : List Value} {t : TypeId} {us : List PV} (hg : w.heap[g]? = some (.cells L.toArray t (0, 0))) (hn : us.length = Nat.min sLen dLen)
    (hsrc : ∀ j v, (pfl us)[j]? = some v → w.cell? ⟨b, p + j, none⟩ = some v) (hfit : off + us.length * 2 ≤ L.length)
    (h : ∀ w', Hid (w' = w.setRow g (splice L off (pfl us)).toArray) → wpList Try.prog ops Q rest (a.put o.dst (goInt us.length)) w') : wpList Try.prog ops Q (o :: rest) a w :=
  wpList_plain hgd fun _ hK => op_copyP d s ho hd hs hg hn hsrc hfit fun w' hw => hK _ _ (h w' hw)

theorem wpList_appH {w : World} {ops : Array Oper} {rest : List Oper} {o : Oper} {a : Act} {Q : Exit → Act → World → Prop} (hgd : o.guard = none) (s x : Operand) (t tn : TypeId)
    (ho : o.op = .call { callee := .builtin .append, args := #[s, x], argTypes := #[t, tn] }) (vs vx : Value) (hs : a.eval s = vs) (hx : a.eval x = vx)
    (v' : Value) (w' : World) (hr : ∀ ty, (Builtin.append_ #[t, tn] ty #[vs, vx]).run Try.prog w = .ok v' w') (h : ∀ w2, Hid (w2 = w') → wpList Try.prog ops Q rest (a.put o.dst v') w2) : wpList Try.prog ops Q (o :: rest) a w :=
  Lib.wpList_append_run w hgd s x t tn ho vs vx hs hx v' w' (hr _) (h _ (Lib.hid rfl))

theorem splice_down {L T V D : List Value} {k : Nat} (hT : L.take k = T) (hk : T.length = k) (hV : V.length = 2) (hfit : k + 2 + D.length ≤ L.length) :
    (splice (splice L (k + 2) D) k V).take (k + 2 + D.length) = T ++ V ++ D ∧ (splice (splice L k V) (k + 2) D).take (k + 2 + D.length) = T ++ V ++ D := by
  have h1 : (splice L (k + 2) D).take k = T := by
    unfold splice
    rw [List.take_append_of_le_length (by simp; omega), List.take_take, Nat.min_eq_left (by omega), hT]
  have h2 : (splice L (k + 2) D).drop (k + 2) = D ++ L.drop (k + 2 + D.length) := by
    unfold splice
    rw [List.drop_append, List.length_take, Nat.min_eq_left (by omega), Nat.sub_self, List.drop_of_length_le (by simp; omega)]
    rfl
  have h3 : splice L k V = (T ++ V) ++ L.drop (k + 2) := by
    unfold splice
    rw [hT, hV, List.append_assoc]
  refine ⟨?_, ?_⟩
  · rw [splice, h1, hV, h2, ← List.append_assoc, ← List.append_assoc, List.take_append_of_le_length (by simp; omega), List.take_of_length_le (by simp; omega)]
  · have h4 : (splice L k V).take (k + 2) = T ++ V := by
      rw [h3, List.take_append_of_le_length (by simp; omega), List.take_of_length_le (by simp; omega)]
    rw [splice, h4, ← List.append_assoc, List.take_append_of_le_length (by simp; omega), List.take_of_length_le (by simp; omega)]

theorem pfl_take (vs : List PV) (i : Nat) : (pfl vs).take (i * 2) = pfl (vs.take i) := by
  by_cases h : i ≤ vs.length
  · conv => lhs; rw [← List.take_append_drop i vs, pfl_append]
    rw [List.take_append_of_le_length (by rw [pfl_length, List.length_take]; omega), List.take_of_length_le (by rw [pfl_length, List.length_take]; omega)]
  · rw [List.take_of_length_le (by rw [pfl_length]; omega), List.take_of_length_le (by omega)]
theorem pfl_drop_at (vs : List PV) (i j : Nat) : (pfl (vs.drop i))[j]? = if i ≤ vs.length then (pfl vs)[i * 2 + j]? else none := by
  by_cases h : i ≤ vs.length
  · rw [if_pos h]
    conv => rhs; rw [← List.take_append_drop i vs, pfl_append]
    rw [List.getElem?_append_right (by rw [pfl_length, List.length_take]; omega), pfl_length, List.length_take, Nat.min_eq_left h, Nat.add_sub_cancel_left]
  · rw [if_neg h, List.drop_of_length_le (by omega)]
    rfl

/-- A row laid at a place: the row's own facts. -/
theorem owP_of {base : Nat} {w : World} {g n cap : Nat} {L : List Value} {vs : List PV} (hg : w.heap[g]? = some (.cells L.toArray 92 (0, 0))) (hb : base ≤ g) (hl : vs.length = n) (hc : n ≤ cap) (hm : cap ≤ maxLen) (hL : L.length = cap * 2) (ht : L.take (n * 2) = pfl vs) (hw : ∀ v ∈ vs, PVW v) : OwP base w (some ⟨g, 0, none⟩) n cap vs :=
  ⟨hl, ⟨by rw [pfl_length, hl], .inr ⟨g, cap, L.toArray, rfl, hb, hg, hc, hm, by simpa using hL, by simpa using ht⟩⟩, hw⟩

theorem insert_len (vs : List PV) (v : PV) (i : Nat) (h : i ≤ vs.length) : (vs.take i ++ [v] ++ vs.drop i).length = vs.length + 1 := by
  simp; omega
theorem insert_wf {vs : List PV} {v : PV} {i : Nat} (h : ∀ x ∈ vs, PVW x) (hv : PVW v) : ∀ x ∈ vs.take i ++ [v] ++ vs.drop i, PVW x := by
  intro x hx
  rcases List.mem_append.1 hx with hx | hx
  · rcases List.mem_append.1 hx with hx | hx
    · exact h x (List.mem_of_mem_take hx)
    · rw [List.mem_singleton.1 hx]; exact hv
  · exact h x (List.mem_of_mem_drop hx)

/-- All but the block of a lies as it lay. -/
def KeepB (a : Option Addr) (w w' : World) : Prop := ∀ k, k < w.heap.size → (∀ p, a = some p → k ≠ p.block) → w'.heap[k]? = w.heap[k]?
theorem KeepB.set {a : Option Addr} {w w' : World} {g : Nat} (h : KeepB a w w') (hg : ∀ k, k < w.heap.size → (∀ p, a = some p → k ≠ p.block) → k ≠ g) (cs : Array Value) : KeepB a w (w'.setRow g cs) := fun k h1 h2 => (setRow_other _ _ _ _ (hg k h1 h2)).trans (h k h1 h2)
theorem KeepB.grown {a : Option Addr} {w w' : World} {n c : Nat} (h : w.grownBy w' (Value.ownBlock (.slice a n c))) : KeepB a w w' := fun k h1 h2 => h.block k h1 (by
  cases a with
  | none => simp [Value.ownBlock]
  | some p =>
    have := h2 p rfl
    simp only [Value.ownBlock]
    intro e
    cases e
    exact this rfl)
/-- What Insert answers. -/
def RetIP (base : Nat) (w : World) (a0 : Option Addr) (n : Nat) (vs : List PV) : Ending → World → Prop := fun e w' =>
  ∃ a cap, e = .returned (.slice a n cap) ∧ OwP base w' a n cap vs ∧ Below base w w' ∧ KeepB a0 w w'

set_option maxHeartbeats 4000000 in
/-- At the end. -/
theorem insert_end (w : World) (base : Nat) {a : Option Addr} {n cap : Nat} {vs : List PV} (h : OwP base w a n cap vs) (hn : n ≤ 1099511627776) (hbase : base ≤ w.heap.size) {gv : Nat} {v : PV} (hr : RdP w (some ⟨gv, 0, none⟩) 1 1 [v]) :
    Calls Try.prog 78 #[.slice a n cap, .int .i64 (n : Nat), .slice (some ⟨gv, 0, none⟩) 1 1] w (RetIP base w a (n + 1) (vs ++ [v])) := by
  have hln := h.rd.le
  have hlc := h.rd.max
  unfold maxLen at hlc
  go_enter Try.func78, Try.ntmps78
  go_wp2_with (at_builtin; refine wpList_appP rfl _ _ rfl base rfl h rfl hr (by omega) hbase ?_; intro a' c' w1 hown hg hb1; refine Hid.out ?_)
  all_goals (
    have HO := Lib.hid hown
    have HB := Lib.hid hb1
    have HK := Lib.hid (KeepB.grown hg)
    clear hown hg hb1 h hr
    refine Lib.hid ?_
    go_wp2_with fail
    go_ret
    exact ⟨a', c', rfl, HO.out, HB.out, HK.out⟩)

set_option maxRecDepth 100000 in
set_option maxHeartbeats 8000000 in
/-- There is room. -/
theorem insert_room (w : World) (base : Nat) {g n cap i : Nat} {vs : List PV} (h : OwP base w (some ⟨g, 0, none⟩) n cap vs) (hn : n ≤ 1099511627776) (hi : i < n) (hroom : n + 1 ≤ cap) {gv : Nat} {v : PV} (hv : PVW v) (hgv : gv ≠ g) (hw : w.heap[gv]? = some (.cells (pcl v).toArray 92 (0, 0))) {R : List PV} (hR : Hid (R = vs.take i ++ [v] ++ vs.drop i)) :
    Calls Try.prog 78 #[.slice (some ⟨g, 0, none⟩) n cap, .int .i64 (i : Nat), .slice (some ⟨gv, 0, none⟩) 1 1] w (RetIP base w (some ⟨g, 0, none⟩) (n + 1) R) := by
  obtain ⟨g', cur, e, hgb, hg, hnc, hmax, hsz, hcur⟩ := h.row (by omega)
  obtain rfl : g = g' := by simpa using e
  have htake : cur.toList.take (n * 2) = pfl vs := by
    rcases h.own.2 with ⟨hv, hn⟩ | ⟨g2, cap', cur2, hv2, hg2, hh2, hnc2, hm2, hsz2, htake2⟩
    · simp at hv
    · simp at hv2
      obtain ⟨rfl, rfl⟩ := hv2
      rw [hg] at hh2
      simp at hh2
      subst hh2
      exact htake2
  have hlen := h.len
  have HWF := Lib.hid (insert_wf (i := i) h.wf hv)
  obtain ⟨L, rfl⟩ : ∃ L : List Value, cur = L.toArray := ⟨cur.toList, by simp⟩
  have hL : L.length = cap * 2 := by simpa using hsz
  simp only [] at htake
  have hT : L.take (i * 2) = pfl (vs.take i) := by
    rw [← pfl_take, ← htake, List.take_take, Nat.min_eq_left (by omega)]
  have HD := Lib.hid (splice_down (L := L) (T := pfl (vs.take i)) (V := pfl [v]) (D := pfl (vs.drop i)) hT (by rw [pfl_length, List.length_take]; omega) rfl (by rw [pfl_length, List.length_drop]; omega))
  have HS := Lib.hid hT
  have hcap : cap ≤ 9223372036854775807 := by unfold maxLen at hmax; omega
  have hov : ∀ lb cb, (callFunc 90 #[.slice (some ⟨gv, 0, none⟩) 1 1, .slice (some ⟨g, (i + 1) * 2, none⟩) lb cb]).run Try.prog w = .ok (.value (.bool false)) w := fun lb cb => by
    rw [run_callFunc_extern Try.func90 (by kernel_rfl) (by kernel_rfl) (by kernel_rfl) (e := Extern.SlicesOverlaps.overlaps #[49, 49] #[4]) (by kernel_rfl),
      Lib.run_overlaps_apart w 49 4 92 Try.underlying49 2 (fun w => by obtain ⟨j, hj, -, h3, -⟩ := infoP; simp [sizeOf, typeInfo, hj, h3]) ⟨gv, 0, none⟩ ⟨g, (i + 1) * 2, none⟩ 1 1 lb cb hgv 92 92 2 (cap * 2) (by simp [World.shape?, hw, pcl]) (by simp [World.shape?, hg, hL]) (by omega) (by simp [World.frozen?, hw]) (by simp [World.frozen?, hw])]
    rfl
  have HCP1 := Lib.hid (show ∀ j u, (pfl (vs.drop i))[j]? = some u → w.cell? ⟨g, i * 2 + j, none⟩ = some u from fun j u hj => by
    rw [pfl_drop_at, if_pos (by omega)] at hj
    rw [cell_of_row w g _ _ _ _ hg]
    exact hcur _ _ hj)
  have HG := Lib.hid hg
  have HW := Lib.hid hw
  have HLEN := Lib.hid hlen
  have HL := Lib.hid hL
  have HH := Lib.hid h
  clear hsz hcur htake hT hg hw hL hlen h
  go_enter Try.func78, Try.ntmps78
  go_wp2_with (simp only [hov])
  have q1 : IntKind.i64.wrap ((i : Int) + 1) = (i : Int) + 1 := by rw [IntKind.wrap_i64]; omega
  have q2 : (0 : Int) ≤ (i : Int) + 1 := by omega
  have q3 : (i : Int) + 1 ≤ (n : Int) + 1 := by omega
  have q4 : ((i : Int) + 1).toNat = i + 1 := by omega
  have q5 : ¬ cap = i + 1 := by omega
  have q6 : ¬ cap = i := by omega
  have q7 : (i : Int) ≤ (n : Int) + 1 := by omega
  refine wp_region_any (by kernel_rfl) ?_
  change wpAny _ _ _ _ _ _ _ (World.drew _)
  refine wpAny_take (i := 0) (oi := ?oir1_0) (v := ?vr1_0) ?hir1_0 (by kernel_rfl) (by kernel_rfl) (by kernel_rfl) ?hqr1_0 ?hyr1_0 ?restr1_0
  case hir1_0 => simp only [List.getElem?_toArray, List.getElem?_cons_succ, List.getElem?_cons_zero]; rfl
  case hqr1_0 => exact fun _ _ _ h => h
  case hyr1_0 => (refine Or.inl ⟨by rfl, ?_⟩; intro w; go_simp; all_goals with_reducible rfl)
  try simp only [Act.put, List.setIfInBounds_toArray, List.set_cons_zero, List.set_cons_succ]
  refine wpAny_take (i := 1) (oi := ?oir1_1) (v := ?vr1_1) ?hir1_1 (by kernel_rfl) (by kernel_rfl) (by kernel_rfl) ?hqr1_1 ?hyr1_1 ?restr1_1
  case hir1_1 => simp only [List.getElem?_toArray, List.getElem?_cons_succ, List.getElem?_cons_zero]; rfl
  case hqr1_1 => exact fun _ _ _ h => h
  case hyr1_1 => (refine Or.inl ⟨by rfl, ?_⟩; intro w; go_simp; all_goals with_reducible rfl)
  try simp only [Act.put, List.setIfInBounds_toArray, List.set_cons_zero, List.set_cons_succ]
  refine wpAny_take (i := 2) (oi := ?oir1_2) (v := ?vr1_2) ?hir1_2 (by kernel_rfl) (by kernel_rfl) (by kernel_rfl) ?hqr1_2 ?hyr1_2 ?restr1_2
  case hir1_2 => simp only [List.getElem?_toArray, List.getElem?_cons_succ, List.getElem?_cons_zero]; rfl
  case hqr1_2 => exact fun _ _ _ h => h
  case hyr1_2 => (refine Or.inl ⟨by rfl, ?_⟩; intro w; go_simp; all_goals with_reducible rfl)
  try simp only [Act.put, List.setIfInBounds_toArray, List.set_cons_zero, List.set_cons_succ]
  refine wpAny_take (i := 3) (oi := ?oir1_3) (v := ?vr1_3) ?hir1_3 (by kernel_rfl) (by kernel_rfl) (by kernel_rfl) ?hqr1_3 ?hyr1_3 ?restr1_3
  case hir1_3 => simp only [List.getElem?_toArray, List.getElem?_cons_succ, List.getElem?_cons_zero]; rfl
  case hqr1_3 => exact fun _ _ _ h => h
  case hyr1_3 => (refine Or.inl ⟨by rfl, ?_⟩; intro w; go_simp; all_goals with_reducible rfl)
  try simp only [Act.put, List.setIfInBounds_toArray, List.set_cons_zero, List.set_cons_succ]
  refine wpAny_take (i := 4) (oi := ?oir1_4) (v := ?vr1_4) ?hir1_4 (by kernel_rfl) (by kernel_rfl) (by kernel_rfl) ?hqr1_4 ?hyr1_4 ?restr1_4
  case hir1_4 => simp only [List.getElem?_toArray, List.getElem?_cons_succ, List.getElem?_cons_zero]; rfl
  case hqr1_4 => exact fun _ _ _ h => h
  case hyr1_4 => (refine Or.inl ⟨by rfl, ?_⟩; intro w; go_simp; all_goals with_reducible rfl)
  try simp only [Act.put, List.setIfInBounds_toArray, List.set_cons_zero, List.set_cons_succ]
  refine wpAny_take (i := 5) (oi := ?oir1_5) (v := ?vr1_5) ?hir1_5 (by kernel_rfl) (by kernel_rfl) (by kernel_rfl) ?hqr1_5 ?hyr1_5 ?restr1_5
  case hir1_5 => simp only [List.getElem?_toArray, List.getElem?_cons_succ, List.getElem?_cons_zero]; rfl
  case hqr1_5 => exact fun _ _ _ h => h
  case hyr1_5 => (refine Or.inl ⟨by rfl, ?_⟩; intro w; go_simp; all_goals with_reducible rfl)
  try simp only [Act.put, List.setIfInBounds_toArray, List.set_cons_zero, List.set_cons_succ]
  refine wpAny_take (i := 6) (oi := ?oir1_6) (v := ?vr1_6) ?hir1_6 (by kernel_rfl) (by kernel_rfl) (by kernel_rfl) ?hqr1_6 ?hyr1_6 ?restr1_6
  case hir1_6 => simp only [List.getElem?_toArray, List.getElem?_cons_succ, List.getElem?_cons_zero]; rfl
  case hqr1_6 => exact fun _ _ _ h => h
  case hyr1_6 => (refine Or.inl ⟨by rfl, ?_⟩; intro w; go_simp; all_goals with_reducible rfl)
  try simp only [Act.put, List.setIfInBounds_toArray, List.set_cons_zero, List.set_cons_succ]
  refine wpAny_take (i := 7) (oi := ?oir1_7) (v := ?vr1_7) ?hir1_7 (by kernel_rfl) (by kernel_rfl) (by kernel_rfl) ?hqr1_7 ?hyr1_7 ?restr1_7
  case hir1_7 => simp only [List.getElem?_toArray, List.getElem?_cons_succ, List.getElem?_cons_zero]; rfl
  case hqr1_7 => exact fun _ _ _ h => h
  case hyr1_7 => (refine Or.inl ⟨by rfl, ?_⟩; intro w; go_simp; all_goals with_reducible rfl)
  try simp only [Act.put, List.setIfInBounds_toArray, List.set_cons_zero, List.set_cons_succ]
  refine wpAny_ready (rs := [8]) (by kernel_rfl) (by simp) ?_
  refine (AllReady.cons (o := ?ob9_8) ?hob9_8 (fun K hK => ?kb9_8) AllReady.nil)
  case hob9_8 => simp only [List.getElem?_toArray, List.getElem?_cons_succ, List.getElem?_cons_zero]; rfl
  case kb9_8 =>
    rw [if_pos (by rfl)]
    refine op_copyP _ _ rfl rfl rfl HG.out (us := vs.drop i) (by show _ = min _ _; rw [List.length_drop, HLEN.out]; omega) HCP1.out (by rw [List.length_drop, HLEN.out, HL.out]; omega) ?_
    intro w1 hw1
    refine hK _ _ ?_
    clear hK K
    try simp only [Act.put, List.setIfInBounds_toArray, List.set_cons_zero, List.set_cons_succ]
    refine wpAny_done (by kernel_rfl) ?_ _
    have HB1 : Hid (Below base w w1) := Lib.hid (by rw [hw1.out]; exact below_setRow (Below.refl base w).drew hgb _)
    have HK1 : Hid (KeepB (some ⟨g, 0, none⟩) w w1) := Lib.hid (by rw [hw1.out]; exact KeepB.set (w' := w.drew) (fun _ _ _ => rfl) (fun k _ h => h _ rfl) _)
    have HG1 : Hid (w1.heap[g]? = some (.cells (splice L ((i + 1) * 2) (pfl (vs.drop i))).toArray 92 (0, 0))) := Lib.hid (by rw [hw1.out]; exact setRow_heap _ _ _ _ _ _ HG.out)
    have HC2 : Hid (∀ j u, (pfl [v])[j]? = some u → w1.cell? ⟨gv, 0 + j, none⟩ = some u) := Lib.hid fun j u hj => by
      have : w1.heap[gv]? = some (.cells (pcl v).toArray 92 (0, 0)) := by rw [hw1.out, setRow_other _ _ _ _ hgv]; exact HW.out
      rw [cell_of_row w1 gv _ _ _ _ this, Nat.zero_add]
      simpa [pfl] using hj
    have HL1 : Hid ((splice L ((i + 1) * 2) (pfl (vs.drop i))).length = L.length) := Lib.hid (length_splice _ _ _ (by rw [pfl_length, List.length_drop, HLEN.out, HL.out]; omega))
    clear hw1 HCP1 HG HW
    have hcp := fun ty => run_copyP w1 ty g (i * 2) (n + 1 - i) (cap - i) gv 0 1 1 _ _ [v] HG1.out (by show 1 = min _ _; omega) HC2.out (by rw [HL1.out, HL.out]; show _ + 1 * 2 ≤ _; omega)
    obtain ⟨w2, hw2⟩ : ∃ w2, w2 = w1.setRow g (splice (splice L ((i + 1) * 2) (pfl (vs.drop i))) (i * 2) (pfl [v])).toArray := ⟨_, rfl⟩
    rw [← hw2] at hcp
    replace hw2 := Lib.hid hw2
    have HO : Hid (OwP base w2 (some ⟨g, 0, none⟩) (n + 1) cap R) := Lib.hid (by
      rw [hw2.out, hR.out]
      refine owP_of (setRow_heap _ _ _ _ _ _ HG1.out) hgb (by rw [insert_len _ _ _ (by rw [HLEN.out]; omega), HLEN.out]) hroom hmax ?_ ?_ HWF.out
      · rw [length_splice _ _ _ (by rw [HL1.out, HL.out]; show _ + 1 * 2 ≤ _; omega), HL1.out, HL.out]
      · have := HD.out.1
        rw [pfl_append, pfl_append, ← this, pfl_length, List.length_drop, HLEN.out, show i * 2 + 2 + (n - i) * 2 = (n + 1) * 2 by omega, show (i + 1) * 2 = i * 2 + 2 by omega])
    have HB2 : Hid (Below base w w2) := Lib.hid (by rw [hw2.out]; exact below_setRow HB1.out hgb _)
    have HK2 : Hid (KeepB (some ⟨g, 0, none⟩) w w2) := Lib.hid (by rw [hw2.out]; exact HK1.out.set (fun k _ h => h _ rfl) _)
    clear hw2
    go_wp2_with fail
    go_ret
    exact ⟨_, _, rfl, HO.out, HB2.out, HK2.out⟩

set_option maxRecDepth 100000 in
set_option maxHeartbeats 8000000 in
/-- There is no room. -/
theorem insert_grow (w : World) (base : Nat) {g n cap i : Nat} {vs : List PV} (h : OwP base w (some ⟨g, 0, none⟩) n cap vs) (hn : n ≤ 1099511627776) (hi : i < n) (hroom : cap < n + 1) (hbase : base ≤ w.heap.size) {gv : Nat} {v : PV} (hv : PVW v) (hw : w.heap[gv]? = some (.cells (pcl v).toArray 92 (0, 0))) {R : List PV} (hR : Hid (R = vs.take i ++ [v] ++ vs.drop i)) :
    Calls Try.prog 78 #[.slice (some ⟨g, 0, none⟩) n cap, .int .i64 (i : Nat), .slice (some ⟨gv, 0, none⟩) 1 1] w (RetIP base w (some ⟨g, 0, none⟩) (n + 1) R) := by
  obtain ⟨g', cur, e, hgb, hg, hnc, hmax, hsz, hcur⟩ := h.row (by omega)
  obtain rfl : g = g' := by simpa using e
  have hlen := h.len
  have HWF := Lib.hid (insert_wf (i := i) h.wf hv)
  have hcap : cap ≤ 9223372036854775807 := by unfold maxLen at hmax; omega
  obtain ⟨ti, hti, hz, h3, hby⟩ := infoP
  have hik : i + (n + 1 - i) = n + 1 := by omega
  have hold : (Builtin.firstCells ti.size i (.slice (some ⟨g, 0, none⟩) i cap)).run Try.prog w.drew = .ok (pfl (vs.take i)).toArray w.drew := by
    rw [h3]
    refine run_firstCells_some w.drew 2 i ⟨g, 0, none⟩ i cap (pfl (vs.take i)) (by rw [pfl_length, List.length_take, hlen, Nat.min_eq_left (by omega)]) (fun j u hj => ?_)
    have ea : (⟨g, 0, none⟩ : Addr).add j = ⟨g, j, none⟩ := by unfold Addr.add; split <;> simp_all
    rw [ea, cell_of_row w.drew g _ _ _ _ hg]
    refine hcur _ _ ?_
    rw [← pfl_take, List.getElem?_take] at hj
    split at hj
    · exact hj
    · cases hj
  have hrun := fun ty => Lib.run_append_grow_zeros w 49 3 ty 92 ti _ .i64 .i64 Try.underlying49 Try.underlying3 hti hz (some ⟨g, 0, none⟩) i cap _ hold (n + 1 - i) (by omega) (by omega) (by omega) (by omega) (by rw [hby]; omega) (by rw [hby, hik]; exact growslice_fits hroom (by omega))
  simp only [hik] at hrun
  obtain ⟨C, hC⟩ : ∃ C, grownCap w (n + 1) cap 92 = C := ⟨_, rfl⟩
  have hC1 : n + 1 ≤ C := by rw [← hC]; exact grownCap_ge _ _ _ _
  have hC2 : C ≤ maxLen := by rw [← hC]; exact grownCap_le_maxLen _ _ _ _ (by unfold maxLen; omega)
  rw [hC] at hrun
  clear hC hold
  obtain ⟨N, hN⟩ : ∃ N, w.heap.size = N := ⟨_, rfl⟩
  obtain ⟨L, hL0⟩ : ∃ L : List Value, (pfl (vs.take i)).toArray ++ Builtin.zeroCells (Value.agg #[.slice none 0 0, .int .i64 0]).cells (n + 1 - i) ++ Builtin.zeroCells (Value.agg #[.slice none 0 0, .int .i64 0]).cells (C - (n + 1)) = L.toArray := ⟨_, (Array.toArray_toList (xs := _)).symm⟩
  have hL : L.length = C * 2 := by
    have := congrArg Array.size hL0
    simp only [Array.size_append, List.size_toArray, pfl_length, List.length_take, hlen, size_zeroCells] at this
    rw [← this, Nat.min_eq_left (by omega), show (Value.agg #[.slice none 0 0, .int .i64 0]).cells.size = 2 by decide]
    omega
  have hT : L.take (i * 2) = pfl (vs.take i) := by
    have := congrArg Array.toList hL0
    simp only [Array.toList_append] at this
    rw [← this, List.append_assoc, List.take_append_of_le_length (by simp [pfl_length, hlen]; omega), List.take_of_length_le (by simp [pfl_length, hlen]; omega)]
  rw [hL0] at hrun
  clear hL0
  have HD := Lib.hid (splice_down (L := L) (T := pfl (vs.take i)) (V := pfl [v]) (D := pfl (vs.drop i)) hT (by rw [pfl_length, List.length_take]; omega) rfl (by rw [pfl_length, List.length_drop]; omega))
  have HCP : Hid (∀ j u, (pfl (vs.drop i))[j]? = some u → w.cell? ⟨g, i * 2 + j, none⟩ = some u) := Lib.hid fun j u hj => by
    rw [pfl_drop_at, if_pos (by omega)] at hj
    rw [cell_of_row w g _ _ _ _ hg]
    exact hcur _ _ hj
  have hgl : g < w.heap.size := (Array.getElem?_eq_some_iff.1 hg).1
  have hvl : gv < w.heap.size := (Array.getElem?_eq_some_iff.1 hw).1
  have HCV : Hid (∀ j u, (pfl [v])[j]? = some u → w.cell? ⟨gv, 0 + j, none⟩ = some u) := Lib.hid fun j u hj => by
    rw [cell_of_row w gv _ _ _ _ hw, Nat.zero_add]
    simpa [pfl] using hj
  have HLEN := Lib.hid hlen
  have HL := Lib.hid hL
  have hcC : C ≤ 9223372036854775807 := by unfold maxLen at hC2; omega
  have q1 : IntKind.i64.wrap ((i : Int) + 1) = (i : Int) + 1 := by rw [IntKind.wrap_i64]; omega
  have q2 : (0 : Int) ≤ (i : Int) + 1 := by omega
  have q3 : (i : Int) + 1 ≤ (n : Int) + 1 := by omega
  have q4 : ((i : Int) + 1).toNat = i + 1 := by omega
  have q5 : ¬ C = i + 1 := by omega
  have q6 : ¬ C = i := by omega
  have q7 : (i : Int) ≤ (n : Int) + 1 := by omega
  have q8 : ¬ cap = i := by omega
  have q9 : i ≤ n := by omega
  rw [hN] at hrun
  have HN := Lib.hid hN
  clear hN hsz hcur hT hg hw hL hlen h hti hz h3 hby
  go_enter Try.func78, Try.ntmps78
  go_wp2_with (at_builtin; refine wpList_appH rfl _ _ _ _ rfl _ _ rfl (by simp [Act.eval, Act.put]; omega) _ _ hrun ?_; intro wA hwA; refine Hid.out ?_)
  have HGA : Hid (wA.heap[N]? = some (.cells L.toArray 92 (0, 0))) := Lib.hid (by rw [hwA.out, ← HN.out]; exact heap_alloc_new _ _)
  have HCPA : Hid (∀ j u, (pfl (vs.drop i))[j]? = some u → wA.cell? ⟨g, i * 2 + j, none⟩ = some u) := Lib.hid fun j u hj => by
    rw [hwA.out]
    exact cell_below ((Below.refl w.heap.size w).drew.alloc (Nat.le_refl _) _) (HCP.out j u hj)
  have HCVA : Hid (∀ j u, (pfl [v])[j]? = some u → wA.cell? ⟨gv, 0 + j, none⟩ = some u) := Lib.hid fun j u hj => by
    rw [hwA.out]
    exact cell_below ((Below.refl w.heap.size w).drew.alloc (Nat.le_refl _) _) (HCV.out j u hj)
  have HBA : Hid (Below base w wA) := Lib.hid (by rw [hwA.out]; exact (Below.refl base w).drew.alloc hbase _)
  have HKA : Hid (KeepB (some ⟨g, 0, none⟩) w wA) := Lib.hid (by rw [hwA.out]; exact fun k h1 _ => heap_alloc_old w.drew _ h1)
  have hgN : g ≠ N := by have := HN.out; omega
  have HL1 : Hid ((splice L (i * 2) (pfl [v])).length = L.length) := Lib.hid (length_splice _ _ _ (by rw [HL.out]; show _ + 1 * 2 ≤ _; omega))
  have hNb : base ≤ N := by have := HN.out; omega
  clear hwA HCP HCV hrun
  have hcp := fun ty => run_copyP wA ty N (i * 2) (n + 1 - i) (C - i) gv 0 1 1 _ _ [v] HGA.out (by show 1 = min _ _; omega) HCVA.out (by rw [HL.out]; show _ + 1 * 2 ≤ _; omega)
  obtain ⟨w1, hw1⟩ : ∃ w1, w1 = wA.setRow N (splice L (i * 2) (pfl [v])).toArray := ⟨_, rfl⟩
  rw [← hw1] at hcp
  replace hw1 := Lib.hid hw1
  have HG1 : Hid (w1.heap[N]? = some (.cells (splice L (i * 2) (pfl [v])).toArray 92 (0, 0))) := Lib.hid (by rw [hw1.out]; exact setRow_heap _ _ _ _ _ _ HGA.out)
  have HC1 : Hid (∀ j u, (pfl (vs.drop i))[j]? = some u → w1.cell? ⟨g, i * 2 + j, none⟩ = some u) := Lib.hid fun j u hj => by
    have := HCPA.out j u hj
    rw [hw1.out]
    simp only [World.cell?, setRow_other _ _ _ _ hgN] at this ⊢
    exact this
  have HK1 : Hid (KeepB (some ⟨g, 0, none⟩) w w1) := Lib.hid (by rw [hw1.out]; exact HKA.out.set (fun k h1 _ => by have := HN.out; omega) _)
  have HB1 : Hid (Below base w w1) := Lib.hid (by rw [hw1.out]; exact below_setRow HBA.out hNb _)
  clear hw1 HCVA HCPA HGA HBA
  refine Lib.hid ?_
  go_wp2_with fail
  refine wp_region_any (by kernel_rfl) ?_
  change wpAny _ _ _ _ _ _ _ (World.drew _)
  refine wpAny_take (i := 0) (oi := ?oir3_0) (v := ?vr3_0) ?hir3_0 (by kernel_rfl) (by kernel_rfl) (by kernel_rfl) ?hqr3_0 ?hyr3_0 ?restr3_0
  case hir3_0 => simp only [List.getElem?_toArray, List.getElem?_cons_succ, List.getElem?_cons_zero]; rfl
  case hqr3_0 => exact fun _ _ _ h => h
  case hyr3_0 => (refine Or.inl ⟨by rfl, ?_⟩; intro w; go_simp; all_goals with_reducible rfl)
  try simp only [Act.put, List.setIfInBounds_toArray, List.set_cons_zero, List.set_cons_succ]
  refine wpAny_take (i := 1) (oi := ?oir3_1) (v := ?vr3_1) ?hir3_1 (by kernel_rfl) (by kernel_rfl) (by kernel_rfl) ?hqr3_1 ?hyr3_1 ?restr3_1
  case hir3_1 => simp only [List.getElem?_toArray, List.getElem?_cons_succ, List.getElem?_cons_zero]; rfl
  case hqr3_1 => exact fun _ _ _ h => h
  case hyr3_1 => (refine Or.inl ⟨by rfl, ?_⟩; intro w; go_simp; all_goals with_reducible rfl)
  try simp only [Act.put, List.setIfInBounds_toArray, List.set_cons_zero, List.set_cons_succ]
  refine wpAny_take (i := 2) (oi := ?oir3_2) (v := ?vr3_2) ?hir3_2 (by kernel_rfl) (by kernel_rfl) (by kernel_rfl) ?hqr3_2 ?hyr3_2 ?restr3_2
  case hir3_2 => simp only [List.getElem?_toArray, List.getElem?_cons_succ, List.getElem?_cons_zero]; rfl
  case hqr3_2 => exact fun _ _ _ h => h
  case hyr3_2 => (refine Or.inl ⟨by rfl, ?_⟩; intro w; go_simp; all_goals with_reducible rfl)
  try simp only [Act.put, List.setIfInBounds_toArray, List.set_cons_zero, List.set_cons_succ]
  refine wpAny_take (i := 3) (oi := ?oir3_3) (v := ?vr3_3) ?hir3_3 (by kernel_rfl) (by kernel_rfl) (by kernel_rfl) ?hqr3_3 ?hyr3_3 ?restr3_3
  case hir3_3 => simp only [List.getElem?_toArray, List.getElem?_cons_succ, List.getElem?_cons_zero]; rfl
  case hqr3_3 => exact fun _ _ _ h => h
  case hyr3_3 => (refine Or.inl ⟨by rfl, ?_⟩; intro w; go_simp; all_goals with_reducible rfl)
  try simp only [Act.put, List.setIfInBounds_toArray, List.set_cons_zero, List.set_cons_succ]
  refine wpAny_take (i := 4) (oi := ?oir3_4) (v := ?vr3_4) ?hir3_4 (by kernel_rfl) (by kernel_rfl) (by kernel_rfl) ?hqr3_4 ?hyr3_4 ?restr3_4
  case hir3_4 => simp only [List.getElem?_toArray, List.getElem?_cons_succ, List.getElem?_cons_zero]; rfl
  case hqr3_4 => exact fun _ _ _ h => h
  case hyr3_4 => (refine Or.inl ⟨by rfl, ?_⟩; intro w; go_simp; all_goals with_reducible rfl)
  try simp only [Act.put, List.setIfInBounds_toArray, List.set_cons_zero, List.set_cons_succ]
  refine wpAny_take (i := 5) (oi := ?oir3_5) (v := ?vr3_5) ?hir3_5 (by kernel_rfl) (by kernel_rfl) (by kernel_rfl) ?hqr3_5 ?hyr3_5 ?restr3_5
  case hir3_5 => simp only [List.getElem?_toArray, List.getElem?_cons_succ, List.getElem?_cons_zero]; rfl
  case hqr3_5 => exact fun _ _ _ h => h
  case hyr3_5 => (refine Or.inl ⟨by rfl, ?_⟩; intro w; go_simp; all_goals with_reducible rfl)
  try simp only [Act.put, List.setIfInBounds_toArray, List.set_cons_zero, List.set_cons_succ]
  refine wpAny_take (i := 6) (oi := ?oir3_6) (v := ?vr3_6) ?hir3_6 (by kernel_rfl) (by kernel_rfl) (by kernel_rfl) ?hqr3_6 ?hyr3_6 ?restr3_6
  case hir3_6 => simp only [List.getElem?_toArray, List.getElem?_cons_succ, List.getElem?_cons_zero]; rfl
  case hqr3_6 => exact fun _ _ _ h => h
  case hyr3_6 => (refine Or.inl ⟨by rfl, ?_⟩; intro w; go_simp; all_goals with_reducible rfl)
  try simp only [Act.put, List.setIfInBounds_toArray, List.set_cons_zero, List.set_cons_succ]
  refine wpAny_take (i := 7) (oi := ?oir3_7) (v := ?vr3_7) ?hir3_7 (by kernel_rfl) (by kernel_rfl) (by kernel_rfl) ?hqr3_7 ?hyr3_7 ?restr3_7
  case hir3_7 => simp only [List.getElem?_toArray, List.getElem?_cons_succ, List.getElem?_cons_zero]; rfl
  case hqr3_7 => exact fun _ _ _ h => h
  case hyr3_7 => (refine Or.inl ⟨by rfl, ?_⟩; intro w; go_simp; all_goals with_reducible rfl)
  try simp only [Act.put, List.setIfInBounds_toArray, List.set_cons_zero, List.set_cons_succ]
  refine wpAny_ready (rs := [8]) (by kernel_rfl) (by simp) ?_
  refine (AllReady.cons (o := ?ob9_8) ?hob9_8 (fun K hK => ?kb9_8) AllReady.nil)
  case hob9_8 => simp only [List.getElem?_toArray, List.getElem?_cons_succ, List.getElem?_cons_zero]; rfl
  case kb9_8 =>
    rw [if_pos (by rfl)]
    refine op_copyP _ _ rfl rfl rfl HG1.out (us := vs.drop i) (by show _ = min _ _; rw [List.length_drop, HLEN.out]; omega) HC1.out (by rw [HL1.out, HL.out, List.length_drop, HLEN.out]; omega) ?_
    intro w2 hw2
    refine hK _ _ ?_
    clear hK K
    try simp only [Act.put, List.setIfInBounds_toArray, List.set_cons_zero, List.set_cons_succ]
    refine wpAny_done (by kernel_rfl) ?_ _
    have HO : Hid (OwP base w2 (some ⟨N, 0, none⟩) (n + 1) C R) := Lib.hid (by
      rw [hw2.out, hR.out]
      refine owP_of (setRow_heap _ _ _ _ _ _ HG1.out) hNb (by rw [insert_len _ _ _ (by rw [HLEN.out]; omega), HLEN.out]) hC1 hC2 ?_ ?_ HWF.out
      · rw [length_splice _ _ _ (by rw [HL1.out, HL.out, pfl_length, List.length_drop, HLEN.out]; omega), HL1.out, HL.out]
      · have := HD.out.2
        rw [pfl_append, pfl_append, ← this, pfl_length, List.length_drop, HLEN.out, show i * 2 + 2 + (n - i) * 2 = (n + 1) * 2 by omega, show (i + 1) * 2 = i * 2 + 2 by omega])
    have HB2 : Hid (Below base w w2) := Lib.hid (by rw [hw2.out]; exact below_setRow HB1.out.drew hNb _)
    have HK2 : Hid (KeepB (some ⟨g, 0, none⟩) w w2) := Lib.hid (by rw [hw2.out]; exact KeepB.set (w' := w1.drew) HK1.out (fun k h1 _ => by have := HN.out; omega) _)
    clear hw2
    go_wp2_with fail
    go_ret
    exact ⟨_, _, rfl, HO.out, HB2.out, HK2.out⟩

/-- All roads. -/
theorem InsertP_any (w : World) (base : Nat) {a : Option Addr} {n cap i : Nat} {vs : List PV} (h : OwP base w a n cap vs) (hn : n ≤ 1099511627776) (hi : i ≤ n) (hbase : base ≤ w.heap.size) {gv : Nat} {v : PV} (hv : PVW v) (hgv : ∀ p, a = some p → gv ≠ p.block) (hw : w.heap[gv]? = some (.cells (pcl v).toArray 92 (0, 0))) :
    Calls Try.prog 78 #[.slice a n cap, .int .i64 (i : Nat), .slice (some ⟨gv, 0, none⟩) 1 1] w (RetIP base w a (n + 1) (vs.take i ++ [v] ++ vs.drop i)) := by
  by_cases hin : i = n
  · subst hin
    have e : vs.take i ++ [v] ++ vs.drop i = vs ++ [v] := by rw [← h.len, List.take_length, List.drop_length, List.append_nil]
    rw [e]
    refine insert_end w base h hn hbase (rdP_row (vs := [v]) rfl hw (Nat.le_refl _) (by decide) (fun j u hj => by simpa [pfl] using hj) (fun x hx => by simp at hx; subst hx; exact hv))
  · obtain ⟨g, cur, rfl, -⟩ := h.row (by omega)
    by_cases hr : n + 1 ≤ cap
    · exact insert_room w base h hn (by omega) hr hv (hgv _ rfl) hw (Lib.hid rfl)
    · exact insert_grow w base h hn (by omega) (by omega) hbase hv hw (Lib.hid rfl)

end Go.Proofs.Ythpjnbnheagpiaa
