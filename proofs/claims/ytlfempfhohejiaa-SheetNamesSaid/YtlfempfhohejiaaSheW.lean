/- Rows of decisions of the call's own; the chapter's example. Conditions: at most 2^40 decisions. Printed by gen_shew.py. -/
import Derived.Test.YtlfempfhohejiaaSheL
import Derived.Test.YtlfempfhohejiaaSheG
import Derived.Test.YtlfempfhohejiaaSheE
namespace Go.Proofs.Ytlfempfhohejiaa
open Go.RowKit Go.Suf
set_option linter.unusedVariables false
set_option linter.unusedSimpArgs false

abbrev dcells (d : DQ) : List Value := [.int .i64 d.bx, .bool d.yes]
def dflat (vs : List DQ) : List Value := vs.flatMap dcells
theorem dflat_length (vs : List DQ) : (dflat vs).length = vs.length * 2 := by
  induction vs with
  | nil => rfl
  | cons v vs ih =>
    show (dcells v ++ dflat vs).length = _
    rw [List.length_append, ih]
    simp [dcells]
    omega
theorem dflat_append (us vs : List DQ) : dflat (us ++ vs) = dflat us ++ dflat vs := by simp [dflat]
theorem dflat_at : ∀ (vs : List DQ) (i : Nat), i < vs.length → ∀ j, j < 2 → (dflat vs)[i * 2 + j]? = (dcells (dth vs i))[j]?
  | [], i, h, _, _ => by simp at h
  | v :: vs, 0, _, j, hj => by
    show (dcells v ++ dflat vs)[0 * 2 + j]? = _
    rw [Nat.zero_mul, Nat.zero_add, List.getElem?_append_left (by simpa [dcells] using hj)]
    rfl
  | v :: vs, i + 1, h, j, hj => by
    show (dcells v ++ dflat vs)[(i + 1) * 2 + j]? = _
    rw [List.getElem?_append_right (by simp [dcells]; omega), show (i + 1) * 2 + j - (dcells v).length = i * 2 + j by simp [dcells]; omega]
    exact dflat_at vs i (by simpa using h) j hj
theorem dflat_one (vs : List DQ) : ∀ u ∈ dflat vs, u.oneCell' = true := by
  intro u hu
  obtain ⟨v, _, hv⟩ := List.mem_flatMap.1 hu
  simp [dcells] at hv
  rcases hv with rfl | rfl <;> rfl
theorem dflat_some {vs : List DQ} {j : Nat} {u : Value} (h : (dflat vs)[j]? = some u) : j / 2 < vs.length ∧ (dcells (dth vs (j / 2)))[j % 2]? = some u := by
  have hj : j < vs.length * 2 := by
    rw [← dflat_length]
    exact (List.getElem?_eq_some_iff.1 h).1
  have h1 : j / 2 < vs.length := by omega
  refine ⟨h1, ?_⟩
  rw [← dflat_at vs (j / 2) h1 (j % 2) (by omega), show j / 2 * 2 + j % 2 = j by omega]
  exact h

/-- A row of decisions of the call's own. -/
structure OwD (base : Nat) (w : World) (a : Option Addr) (n cap : Nat) (vs : List DQ) : Prop where
  len : vs.length = n
  own : w.ownsRow base 58 2 (.slice a n cap) n (dflat vs)
  wf : ∀ v ∈ vs, okI v.bx

theorem OwD.below {base : Nat} {w w' : World} {a : Option Addr} {n cap : Nat} {vs : List DQ} (h : OwD base w a n cap vs) (hb : Below w.heap.size w w') : OwD base w' a n cap vs :=
  ⟨h.len, h.own.kept (row := none) ⟨hb.os, hb.tape, hb.output, hb.size, fun k hk _ => hb.block k hk⟩ (by cases (Value.slice a n cap).ownBlock <;> simp), h.wf⟩

theorem OwD.nil (base : Nat) (w : World) : OwD base w none 0 0 [] := ⟨rfl, World.ownsRow_nil w base _ 2, fun v h => by simp at h⟩

theorem OwD.base_le {base base' : Nat} {w : World} {a : Option Addr} {n cap : Nat} {vs : List DQ} (h : OwD base w a n cap vs) (hb : base' ≤ base) : OwD base' w a n cap vs := by
  refine ⟨h.len, ⟨h.own.1, ?_⟩, h.wf⟩
  rcases h.own.2 with h2 | ⟨g, c, cur, hv, hg, r⟩
  · exact .inl h2
  · exact .inr ⟨g, c, cur, hv, by omega, r⟩

/-- The block of an own row. -/
theorem OwD.row {base : Nat} {w : World} {a : Option Addr} {n cap : Nat} {vs : List DQ} (h : OwD base w a n cap vs) (hp : 0 < n) :
    ∃ g cur, a = some ⟨g, 0, none⟩ ∧ base ≤ g ∧ w.heap[g]? = some (.cells cur 58 (0, 0)) ∧ n ≤ cap ∧ cap ≤ maxLen ∧ cur.size = cap * 2 ∧ ∀ (j : Nat) (u : Value), (dflat vs)[j]? = some u → cur[j]? = some u := by
  rcases h.own.2 with ⟨hv, hn⟩ | ⟨g, cap', cur, hv, hg, hh, hnc, hm, hsz, htake⟩
  · omega
  · simp at hv
    obtain ⟨rfl, rfl⟩ := hv
    refine ⟨g, cur, rfl, hg, hh, hnc, hm, hsz, fun j u hu => ?_⟩
    rw [← htake] at hu
    have hj := (List.getElem?_eq_some_iff.1 hu).1
    rw [List.getElem?_take_of_lt (by simp at hj; omega)] at hu
    simpa using hu

theorem rdD_row {w : World} {g cap n : Nat} {cur : Array Value} {vs : List DQ} {t : TypeId} {f : Nat × Nat} (hl : vs.length = n) (hh : w.heap[g]? = some (.cells cur t f)) (hc : n ≤ cap) (hm : cap ≤ maxLen) (h : ∀ (j : Nat) (u : Value), (dflat vs)[j]? = some u → cur[j]? = some u) (hw : ∀ v ∈ vs, okI v.bx) : RdD w (some ⟨g, 0, none⟩) n cap vs := by
  refine ⟨hl, hc, hm, fun e => by simp at e, fun i hi => ⟨g, 0, rfl, ?_⟩, hw⟩
  have at' : ∀ (j : Nat) (u : Value), (dcells (dth vs i))[j]? = some u → j < 2 → w.cell? ⟨g, i * 2 + j, none⟩ = some u := fun j u hu hj => by
    rw [cell_of_row _ _ _ _ _ _ hh]
    exact h _ _ (by rw [dflat_at vs i (by omega) j hj]; exact hu)
  simp only [Nat.zero_add]
  exact ⟨at' 0 _ rfl (by omega), at' 1 _ rfl (by omega)⟩

theorem OwD.rd {base : Nat} {w : World} {a : Option Addr} {n cap : Nat} {vs : List DQ} (h : OwD base w a n cap vs) : RdD w a n cap vs := by
  rcases Nat.eq_zero_or_pos n with h0 | hp
  · subst h0
    have hx : vs = [] := List.eq_nil_of_length_eq_zero h.len
    subst hx
    rcases h.own.2 with ⟨hv, hn⟩ | ⟨g, cap', cur, hv, hg, hh, hnc, hm, hsz, htake⟩
    · simp at hv
      obtain ⟨rfl, rfl⟩ := hv
      exact ⟨rfl, Nat.le_refl _, Nat.zero_le _, fun _ => rfl, fun i hi => absurd hi (by omega), h.wf⟩
    · simp at hv
      obtain ⟨rfl, rfl⟩ := hv
      exact ⟨rfl, hnc, hm, fun e => by simp at e, fun i hi => absurd hi (by omega), h.wf⟩
  · obtain ⟨g, cur, rfl, _, hh, hc, hm, _, hcur⟩ := h.row hp
    exact rdD_row h.len hh hc hm hcur h.wf

theorem infoD : ∃ i, Try.prog.info? 58 = some i ∧ i.zero = some (.agg #[.int .i64 0, .bool false]) ∧ i.size = 2 ∧ i.bytes = 16 := by
  have h : (Try.prog.info? 58).map (fun i => (i.zero, i.size, i.bytes)) = some (some (.agg #[.int .i64 0, .bool false]), 2, 16) := by kernel_rfl
  cases hq : Try.prog.info? 58 with
  | none => simp [hq] at h
  | some i =>
    simp [hq] at h
    exact ⟨i, rfl, h.1, h.2.1, h.2.2⟩

/-- 'append(s, x...)' of decisions: s the call's own, x whatever reads. -/
theorem wpList_appD {ops : Array Oper} {rest : List Oper} {o : Oper} {a : Act} {w : World} {Q : Exit → Act → World → Prop} (hgd : o.guard = none) (s x : Operand)
    (ho : o.op = .call { callee := .builtin .append, args := #[s, x], argTypes := #[49, 49] })
    (base : Nat) {a1 : Option Addr} {n1 cap1 : Nat} {vs : List DQ} (hs : a.eval s = .slice a1 n1 cap1) (hown : OwD base w a1 n1 cap1 vs)
    {a2 : Option Addr} {n2 cap2 : Nat} {us : List DQ} (hx : a.eval x = .slice a2 n2 cap2) (hr : RdD w a2 n2 cap2 us)
    (hm : n1 + n2 ≤ 2199023255552) (hbase : base ≤ w.heap.size)
    (h : ∀ a' cap' w', OwD base w' a' (n1 + n2) cap' (vs ++ us) → w.grownBy w' (Value.ownBlock (.slice a1 n1 cap1)) → Below base w w' →
      wpList Try.prog ops Q rest (a.put o.dst (.slice a' (n1 + n2) cap')) w') : wpList Try.prog ops Q (o :: rest) a w := by
  obtain ⟨i, hi, hz, h1, hby⟩ := infoD
  have below : ∀ {w'}, w.grownBy w' (Value.ownBlock (.slice a1 n1 cap1)) → Below base w w' := fun hg =>
    (Below.refl base w).grown hg hbase (fun k hk => (hown.own.lt k hk).1)
  have wf : ∀ v ∈ vs ++ us, okI v.bx := fun v hv => by
    rcases List.mem_append.1 hv with h | h
    · exact hown.wf v h
    · exact hr.wf v h
  have hlen : (vs ++ us).length = n1 + n2 := by rw [List.length_append, hown.len, hr.len]
  cases a2 with
  | none =>
    have hc := hr.nil rfl
    subst hc
    have hn : n2 = 0 := Nat.le_zero.1 hr.le
    subst hn
    have hd : us = [] := List.eq_nil_of_length_eq_zero hr.len
    subst hd
    refine wpList_append_own_none hgd s x 49 ho base 58 i 2 Try.underlying49 hi _ n1 (dflat vs) hs hown.own hx ?_
    have := h a1 cap1 w (by simpa using hown) ⟨rfl, rfl, rfl, Nat.le_refl _, fun _ _ _ => rfl⟩ (Below.refl _ _)
    simpa using this
  | some ad =>
    refine wpList_append_own w hgd s x 49 ho base 58 i _ 2 16 Try.underlying49 hi hz h1 hby rfl (by decide) _ n1 (dflat vs) hs hown.own ad n2 cap2 (dflat us) hx (by rw [dflat_length, hr.len]) (fun j u hu => ?_) (dflat_one us) (by unfold maxLen; omega) (by omega) hbase ?_
    · obtain ⟨hj1, hj2⟩ := dflat_some hu
      obtain ⟨b, off, e, k0, k1⟩ := hr.cell (j / 2) (by rw [← hr.len]; exact hj1)
      simp only [Option.some.injEq] at e
      subst e
      have ea : (⟨b, off, none⟩ : Addr).add j = ⟨b, off + j, none⟩ := by unfold Addr.add; split <;> simp_all
      rw [ea]
      have h3 : j % 2 = 0 ∨ j % 2 = 1 := by omega
      rcases h3 with h3 | h3 <;> rw [h3] at hj2 <;> simp [dcells] at hj2 <;> subst hj2
      · rw [show off + j = off + j / 2 * 2 by omega]; exact k0
      · rw [show off + j = off + j / 2 * 2 + 1 by omega]; exact k1
    · intro v' w' hown' hg _
      rw [← dflat_append] at hown'
      rcases hown'.2 with ⟨hv, hn⟩ | ⟨g, cap', cur, hv, _⟩
      · subst hv
        have hn0 : n1 + n2 = 0 := hn
        have h' := h none 0 w' ⟨hlen, by rw [hn0] at hown' ⊢; exact hown', wf⟩ hg (below hg)
        rw [hn0] at h'
        exact h'
      · subst hv
        exact h _ _ w' ⟨hlen, hown', wf⟩ hg (below hg)

theorem owD_made (w : World) : OwD w.heap.size (w.alloc (.cells #[] 58)) (some ⟨w.heap.size, 0, none⟩) 0 0 [] :=
  ⟨rfl, World.ownsRow_made w #[] 0 (Nat.le_refl _) (by decide) rfl, fun v h => by simp at h⟩
theorem rdD_one (w : World) (d : DQ) (hd : okI d.bx) : RdD (w.alloc (.cells #[.int .i64 d.bx, .bool d.yes] 58)) (some ⟨w.heap.size, 0, none⟩) 1 1 [d] := by
  refine ⟨rfl, Nat.le_refl _, by decide, fun e => by simp at e, fun i hi => ?_, fun x hx => by simp at hx; subst hx; exact hd⟩
  obtain rfl : i = 0 := by omega
  have hh := heap_alloc_new w (.cells #[.int .i64 d.bx, .bool d.yes] 58)
  refine ⟨w.heap.size, 0, rfl, ?_, ?_⟩ <;> (simp only [World.cell?, hh]; rfl)
theorem results_cell_three {P : Program} {fn : Func} {p1 p2 p3 : Tmp} {ty1 ty2 ty3 : TypeId} (h : fn.results = #[.cell p1 ty1, .cell p2 ty2, .cell p3 ty3]) (tmps : Array Value) (w : World) (g1 g2 g3 : Nat) (t1 t2 t3 : TypeId) (c1 c2 c3 : Array Value) (f1 f2 f3 : Nat × Nat) (d1 d2 d3 : TypeDesc)
    (hp1 : tmps.getD p1 undef = .pointer (some ⟨g1, 0, none⟩)) (hg1 : w.heap[g1]? = some (.cells c1 t1 f1))
    (hu1 : P.underlying ty1 = some d1) (hd1 : (match d1 with | .struct _ | .array _ _ => true | _ => false) = true) (hi1 : (P.info? ty1).map (·.size) = some c1.size)
    (hp2 : tmps.getD p2 undef = .pointer (some ⟨g2, 0, none⟩)) (hg2 : w.heap[g2]? = some (.cells c2 t2 f2))
    (hu2 : P.underlying ty2 = some d2) (hd2 : (match d2 with | .struct _ | .array _ _ => true | _ => false) = true) (hi2 : (P.info? ty2).map (·.size) = some c2.size)
    (hp3 : tmps.getD p3 undef = .pointer (some ⟨g3, 0, none⟩)) (hg3 : w.heap[g3]? = some (.cells c3 t3 f3))
    (hu3 : P.underlying ty3 = some d3) (hd3 : (match d3 with | .struct _ | .array _ _ => true | _ => false) = true) (hi3 : (P.info? ty3).map (·.size) = some c3.size) :
    (results fn tmps).run P w = .ok (.tuple #[.agg c1, .agg c2, .agg c3]) w := by
  have e1 : tmps[p1]?.getD undef = .pointer (some ⟨g1, 0, none⟩) := by simpa using hp1
  have e2 : tmps[p2]?.getD undef = .pointer (some ⟨g2, 0, none⟩) := by simpa using hp2
  have e3 : tmps[p3]?.getD undef = .pointer (some ⟨g3, 0, none⟩) := by simpa using hp3
  simp [results, h, e1, e2, e3, asAddr, run_loadVar_row w g1 t1 ty1 c1 f1 d1 hg1 hu1 hd1 hi1, run_loadVar_row w g2 t2 ty2 c2 f2 d2 hg2 hu2 hd2 hi2, run_loadVar_row w g3 t3 ty3 c3 f3 d3 hg3 hu3 hd3 hi3, Sem.run_bind, Result.andThen]
theorem atCon : AT Try.prog 24 4 := ⟨⟨_, Try.underlying24, rfl⟩, by kernel_rfl⟩
theorem atPol : AT Try.prog 48 3 := ⟨⟨_, Try.underlying48, rfl⟩, by kernel_rfl⟩
theorem con_one (s : ByteArray) (a : Option Addr) (n c : Nat) (i j : Int) : ∀ u ∈ (#[.string s, .slice a n c, .int .i64 i, .int .u8 j] : Array Value).toList, u.oneCell' = true := by
  intro u hu
  simp at hu
  rcases hu with rfl | rfl | rfl | rfl <;> rfl
theorem pol_one (a b c : Int) : ∀ u ∈ (#[.int .u8 a, .int .u8 b, .int .i64 c] : Array Value).toList, u.oneCell' = true := by
  intro u hu
  simp at hu
  rcases hu with rfl | rfl | rfl <;> rfl
abbrev xS : ByteArray := ⟨#[120]⟩
abbrev aS : ByteArray := ⟨#[97]⟩
abbrev bS : ByteArray := ⟨#[98]⟩
abbrev cS : ByteArray := ⟨#[99]⟩
def box3 : List Nat := [0, 100, 0, 90, 0, 0, 0, 0, 30]
/-- The example's contest, policy and sheet. -/
def Ret3 (w : World) : Ending → World → Prop := fun e w' => ∃ a b, e = .returned (.tuple #[.agg #[.string xS, .slice a 3 3, .int .i64 1, .int .u8 9], .agg #[.int .u8 20, .int .u8 60, .int .i64 0], .agg #[.slice b 9 9]]) ∧ RdS w' a 3 3 [aS, bS, cS] ∧ Rd .u8 w' b 9 9 box3 ∧ Below w.heap.size w w'
theorem rdS_row2 {w : World} {a : Option Addr} {n c g : Nat} {ss : List ByteArray} (h : RdS w a n c ss) (hne : ∀ p, a = some p → p.block ≠ g) (cs : Array Value) : RdS (w.setRow g cs) a n c ss := by
  refine ⟨h.len, h.sl.le, h.sl.max, h.sl.nil, fun i x hx => ?_, h.sl.one⟩
  obtain ⟨b, off, e, hw⟩ := h.sl.cell i x hx
  refine ⟨b, off, e, ?_⟩
  rw [cell_setRow_other _ _ _ _ (by have := hne _ e; simpa using this)]
  exact hw
theorem rd_row2 {k : IntKind} {w : World} {a : Option Addr} {n c g : Nat} {xs : List Nat} (h : Rd k w a n c xs) (hne : ∀ p, a = some p → p.block ≠ g) (cs : Array Value) : Rd k (w.setRow g cs) a n c xs := by
  refine ⟨h.len, ⟨h.sl.le, h.sl.max, h.sl.nil, fun i x hx => ?_, h.sl.one⟩, h.bd⟩
  obtain ⟨b, off, e, hw⟩ := h.sl.cell i x hx
  refine ⟨b, off, e, ?_⟩
  rw [cell_setRow_other _ _ _ _ (by have := hne _ e; simpa using this)]
  exact hw

set_option maxRecDepth 100000 in
set_option maxHeartbeats 4000000 in
theorem three_any (w : World) : Calls Try.prog 27 #[] w (Ret3 w) := by
  have R0 := PRow.new 24 w #[Value.string ⟨#[]⟩, .slice none 0 0, .int .i64 0, .int .u8 0]
  have R1 := (PRow.new 48 (w.alloc (.cells #[Value.string ⟨#[]⟩, .slice none 0 0, .int .i64 0, .int .u8 0] 24)) #[Value.int .u8 0, .int .u8 0, .int .i64 0]).base R0.below
  have R0 := R0.later (below_al _ (.cells #[Value.int .u8 0, .int .u8 0, .int .i64 0] 48))
  have R2 := (PRow.new 27 ((w.alloc (.cells #[Value.string ⟨#[]⟩, .slice none 0 0, .int .i64 0, .int .u8 0] 24)).alloc (.cells #[Value.int .u8 0, .int .u8 0, .int .i64 0] 48)) #[Value.slice none 0 0]).base R1.below
  have R0 := R0.later (below_al _ (.cells #[Value.slice none 0 0] 27))
  have R1 := R1.later (below_al _ (.cells #[Value.slice none 0 0] 27))
  simp only [World.size_alloc] at R0 R1 R2
  go_enter Try.func27, Try.ntmps27
  go_upto_region 1 with fail
  obtain ⟨G, hG⟩ : ∃ G, w.heap.size = G := ⟨_, rfl⟩
  rw [hG] at R0 R1 R2 ⊢
  generalize ((w.alloc (.cells #[Value.string ⟨#[]⟩, .slice none 0 0, .int .i64 0, .int .u8 0] 24)).alloc (.cells #[Value.int .u8 0, .int .u8 0, .int .i64 0] 48)).alloc (.cells #[Value.slice none 0 0] 27) = w1 at *
  have HG := Lib.hid hG
  clear hG
  have hs := R2.lt
  have HS0 := rdS_lit w1 [⟨#[97]⟩, ⟨#[98]⟩, ⟨#[99]⟩] 9 (by unfold maxLen; simp)
  have b1 := below_al w1 (.cells #[Value.string ⟨#[97]⟩, .string ⟨#[98]⟩, .string ⟨#[99]⟩] 9)
  have R0 := R0.later b1
  have R1 := R1.later b1
  have R2 := R2.later b1
  have PC := PRow.new 24 (w1.alloc (.cells #[Value.string ⟨#[97]⟩, .string ⟨#[98]⟩, .string ⟨#[99]⟩] 9)) #[Value.string ⟨#[120]⟩, .slice (some ⟨w1.heap.size, 0, none⟩) 3 3, .int .i64 1, .int .u8 9]
  rw [World.size_alloc] at PC
  have HS : RdS ((w1.alloc (.cells #[Value.string ⟨#[97]⟩, .string ⟨#[98]⟩, .string ⟨#[99]⟩] 9)).alloc (.cells #[Value.string ⟨#[120]⟩, .slice (some ⟨w1.heap.size, 0, none⟩) 3 3, .int .i64 1, .int .u8 9] 24)) (some ⟨w1.heap.size, 0, none⟩) 3 3 [aS, bS, cS] := HS0.below (below_al _ _)
  have b2 := below_al (w1.alloc (.cells #[Value.string ⟨#[97]⟩, .string ⟨#[98]⟩, .string ⟨#[99]⟩] 9)) (.cells #[Value.string ⟨#[120]⟩, .slice (some ⟨w1.heap.size, 0, none⟩) 3 3, .int .i64 1, .int .u8 9] 24)
  have R0 := R0.later b2
  have R1 := R1.later b2
  have R2 := R2.later b2
  have HR := Lib.hid (And.intro R0 (And.intro R1 R2))
  clear b1 b2 HS0 R0 R1 R2
  go_upto_region 2 with (first | refine wpList_store_new rfl 24 _ _ rfl atCon _ _ _ rfl rfl rfl rfl (con_one _ _ _ _ _ _) ?_)
  generalize (w1.alloc (.cells #[Value.string ⟨#[97]⟩, .string ⟨#[98]⟩, .string ⟨#[99]⟩] 9)).alloc (.cells #[Value.string ⟨#[120]⟩, .slice (some ⟨w1.heap.size, 0, none⟩) 3 3, .int .i64 1, .int .u8 9] 24) = w2 at *
  obtain ⟨R0, R1, R2⟩ := HR.out
  have b3 := below_al w2 (.cells #[Value.int .u8 0, Value.int .u8 100, Value.int .u8 0, Value.int .u8 90, Value.int .u8 0, Value.int .u8 0, Value.int .u8 0, Value.int .u8 0, Value.int .u8 30] 5)
  have HB : Rd .u8 (w2.alloc (.cells #[Value.int .u8 0, Value.int .u8 100, Value.int .u8 0, Value.int .u8 90, Value.int .u8 0, Value.int .u8 0, Value.int .u8 0, Value.int .u8 0, Value.int .u8 30] 5)) (some ⟨w2.heap.size, 0, none⟩) 9 9 box3 := rd_lit .u8 w2 box3 5 9 rfl (by unfold maxLen; decide) (by decide)
  have HSb := HS.below b3
  have k0 := PC.cell 0 _ rfl
  have k1 := PC.cell 1 _ rfl
  have k2 := PC.cell 2 _ rfl
  have k3 := PC.cell 3 _ rfl
  have R0 := R0.later b3
  have R1 := R1.later b3
  have R2 := R2.later b3
  have S0 := R0.put #[Value.string ⟨#[120]⟩, .slice (some ⟨w1.heap.size, 0, none⟩) 3 3, .int .i64 1, .int .u8 9]
  have S1 := R1.row2 (by omega) R0.lo #[Value.string ⟨#[120]⟩, .slice (some ⟨w1.heap.size, 0, none⟩) 3 3, .int .i64 1, .int .u8 9]
  have S2 := R2.row2 (by omega) R0.lo #[Value.string ⟨#[120]⟩, .slice (some ⟨w1.heap.size, 0, none⟩) 3 3, .int .i64 1, .int .u8 9]
  have T0 := S0.row2 (by omega) R1.lo #[Value.int .u8 20, .int .u8 60, .int .i64 0]
  have T1 := S1.put #[Value.int .u8 20, .int .u8 60, .int .i64 0]
  have T2 := S2.row2 (by omega) R1.lo #[Value.int .u8 20, .int .u8 60, .int .i64 0]
  have V0 := T0.row2 (by omega) R2.lo #[Value.slice (some ⟨w2.heap.size, 0, none⟩) 9 9]
  have V1 := T1.row2 (by omega) R2.lo #[Value.slice (some ⟨w2.heap.size, 0, none⟩) 9 9]
  have V2 := T2.put #[Value.slice (some ⟨w2.heap.size, 0, none⟩) 9 9]
  have h1 : w1.heap.size < w2.heap.size := Nat.lt_trans (Nat.lt_succ_self _) PC.lt
  have HF := Lib.hid (And.intro (rdS_row2 (g := G + 1 + 1) (rdS_row2 (g := G + 1) (rdS_row2 (g := G) HSb (fun p e => by simp at e; subst e; show w1.heap.size ≠ G; omega) #[Value.string ⟨#[120]⟩, .slice (some ⟨w1.heap.size, 0, none⟩) 3 3, .int .i64 1, .int .u8 9]) (fun p e => by simp at e; subst e; show w1.heap.size ≠ G + 1; omega) #[Value.int .u8 20, .int .u8 60, .int .i64 0]) (fun p e => by simp at e; subst e; show w1.heap.size ≠ G + 1 + 1; omega) #[Value.slice (some ⟨w2.heap.size, 0, none⟩) 9 9])
    (rd_row2 (g := G + 1 + 1) (rd_row2 (g := G + 1) (rd_row2 (g := G) HB (fun p e => by simp at e; subst e; show w2.heap.size ≠ G; omega) #[Value.string ⟨#[120]⟩, .slice (some ⟨w1.heap.size, 0, none⟩) 3 3, .int .i64 1, .int .u8 9]) (fun p e => by simp at e; subst e; show w2.heap.size ≠ G + 1; omega) #[Value.int .u8 20, .int .u8 60, .int .i64 0]) (fun p e => by simp at e; subst e; show w2.heap.size ≠ G + 1 + 1; omega) #[Value.slice (some ⟨w2.heap.size, 0, none⟩) 9 9]))
  have HV := Lib.hid (And.intro V0 (And.intro V1 V2))
  clear HS HSb HB T0 V0 V1 V2 S0 h1 hs b3
  go_wp2_with first | refine wpList_store_whole rfl 24 _ _ rfl atCon _ _ _ R0.row rfl rfl rfl rfl (con_one _ _ _ _ _ _) ?_ | refine wpList_store_whole rfl 48 _ _ rfl atPol _ _ _ S1.row rfl rfl rfl rfl (pol_one _ _ _) ?_ | refine wpList_store_whole rfl 27 _ _ rfl atShe _ _ _ T2.row rfl rfl rfl rfl (she_one _ _ _) ?_
  obtain ⟨V0, V1, V2⟩ := HV.out
  refine bodyPost_ret (results_cell_three rfl _ _ _ _ _ _ _ _ _ _ _ _ _ _ _ _ _ rfl V0.row Try.underlying24 rfl (by kernel_rfl) rfl V1.row Try.underlying48 rfl (by kernel_rfl) rfl V2.row Try.underlying27 rfl (by kernel_rfl)) rfl ?_
  exact ⟨_, _, rfl, HF.out.1, HF.out.2, V0.below⟩

end Go.Proofs.Ytlfempfhohejiaa
