/- Records: append to own rows of pairs; what lasts beside it. Condition: at most 2^40 elements. -/
import Derived.Test.YthpjnbnheagpiaaTopU
namespace Go.Proofs.Ythpjnbnheagpiaa
open Go.RowKit Go.Suf
set_option linter.unusedVariables false
set_option linter.unusedSimpArgs false

/-- 'append(s, x...)' of pairs, as one operation: s the call's own, x whatever reads. -/
theorem op_appX {P : Program} {o : Oper} {ac : Act} {w : World} {K : Act → World → Prop} {Q : Exit → Act → World → Prop} (s x : Operand) (t : TypeId)
    (ho : o.op = .call { callee := .builtin .append, args := #[s, x], argTypes := #[t, t] }) {e : TypeId} {bs : Nat} (T : ET2 P t e bs)
    (base : Nat) {a1 : Option Addr} {n1 cap1 : Nat} {vs : List PV} (hs : ac.eval s = .slice a1 n1 cap1) (hown : OwX e base w a1 n1 cap1 vs)
    {a2 : Option Addr} {n2 cap2 : Nat} {us : List PV} (hx : ac.eval x = .slice a2 n2 cap2) (hr : RdP w a2 n2 cap2 us)
    (hm : n1 + n2 ≤ 1099511627776) (hbase : base ≤ w.heap.size)
    (h : ∀ a' cap' w', OwX e base w' a' (n1 + n2) cap' (vs ++ us) → KeepB a1 w w' → Below base w w' → K (ac.put o.dst (.slice a' (n1 + n2) cap')) w') : o.wp P ac w K Q := by
  obtain ⟨i, z, hi, hz, hzs, h1, hby⟩ := T.info
  have hsm := T.small
  have below : ∀ {w'}, w.grownBy w' (Value.ownBlock (.slice a1 n1 cap1)) → Below base w w' := fun hg =>
    (Below.refl base w).grown hg hbase (fun k hk => (hown.own.lt k hk).1)
  have hlen : (vs ++ us).length = n1 + n2 := by rw [List.length_append, hown.len, hr.len]
  cases a2 with
  | none =>
    have hc := hr.nil rfl
    subst hc
    have hn : n2 = 0 := Nat.le_zero.1 hr.le
    subst hn
    have hd : us = [] := List.eq_nil_of_length_eq_zero hr.len
    subst hd
    have hrun := run_append_owned_none (P := P) (w := w) base t o.type e i 2 T.ht hi _ n1 (pfl vs) hown.own
    unfold Oper.wp
    simp [execOp, ho, resolve, invoke, builtin, hs, hx, hrun, Result.andThen]
    have h9 := h a1 cap1 w (by simpa using hown) (fun _ _ _ => rfl) (Below.refl _ _)
    simp only [Nat.add_zero] at h9
    exact h9
  | some ad =>
    refine wp_append_own w s x t ho base e i z 2 bs T.ht hi hz h1 hby hzs (by decide) _ n1 (pfl vs) hs hown.own ad n2 cap2 (pfl us) hx (by rw [pfl_length, hr.len]) (fun j u hu => ?_) (pfl_one us) (by unfold maxLen; omega) ?_ hbase ?_
    · obtain ⟨hj1, hj2⟩ := pfl_some hu
      obtain ⟨b, off, e, k0, k1⟩ := hr.cell (j / 2) (by rw [← hr.len]; exact hj1)
      simp only [Option.some.injEq] at e
      subst e
      have ea : (⟨b, off, none⟩ : Addr).add j = ⟨b, off + j, none⟩ := by unfold Addr.add; split <;> simp_all
      rw [ea]
      have h3 : j % 2 = 0 ∨ j % 2 = 1 := by omega
      rcases h3 with h3 | h3 <;> rw [h3] at hj2 <;> simp [pcl] at hj2 <;> subst hj2
      · rw [show off + j = off + j / 2 * 2 by omega]; exact k0
      · rw [show off + j = off + j / 2 * 2 + 1 by omega]; exact k1
    · have : (n1 + n2) * bs ≤ 1099511627776 * 64 := Nat.mul_le_mul hm hsm
      omega
    · intro v' w' hown' hg _
      rw [← pfl_append] at hown'
      rcases hown'.2 with ⟨hv, hn⟩ | ⟨g, cap', cur, hv, _⟩
      · subst hv
        have hn0 : n1 + n2 = 0 := hn
        have h' := h none 0 w' ⟨hlen, by rw [hn0] at hown' ⊢; exact hown'⟩ (KeepB.grown hg) (below hg)
        rw [hn0] at h'
        exact h'
      · subst hv
        exact h _ _ w' ⟨hlen, hown'⟩ (KeepB.grown hg) (below hg)
theorem wpList_appX {P : Program} {ops : Array Oper} {rest : List Oper} {o : Oper} {ac : Act} {w : World} {Q : Exit → Act → World → Prop} (hgd : o.guard = none) (s x : Operand) (t : TypeId)
    (ho : o.op = .call { callee := .builtin .append, args := #[s, x], argTypes := #[t, t] }) {e : TypeId} {bs : Nat} (T : ET2 P t e bs)
    (base : Nat) {a1 : Option Addr} {n1 cap1 : Nat} {vs : List PV} (hs : ac.eval s = .slice a1 n1 cap1) (hown : OwX e base w a1 n1 cap1 vs)
    {a2 : Option Addr} {n2 cap2 : Nat} {us : List PV} (hx : ac.eval x = .slice a2 n2 cap2) (hr : RdP w a2 n2 cap2 us)
    (hm : n1 + n2 ≤ 1099511627776) (hbase : base ≤ w.heap.size)
    (h : ∀ a' cap' w', OwX e base w' a' (n1 + n2) cap' (vs ++ us) → KeepB a1 w w' → Below base w w' → wpList P ops Q rest (ac.put o.dst (.slice a' (n1 + n2) cap')) w') : wpList P ops Q (o :: rest) ac w :=
  wpList_plain hgd fun K hK => op_appX s x t ho T base hs hown hx hr hm hbase fun a' c' w' h1 h2 h3 => hK _ _ (h a' c' w' h1 h2 h3)
/-- A block that was laid just now, as a row of one pair. -/
theorem rdP_new (w : World) (p : PV) (t : TypeId) : RdP (w.alloc (.cells #[p.u, p.v] t)) (some ⟨w.heap.size, 0, none⟩) 1 1 [p] :=
  rdP_row rfl (heap_alloc_new w _) (Nat.le_refl _) (by decide) (fun j u hj => by simpa [pfl] using hj) (fun _ _ => trivial)
theorem balM.keepA {base : Nat} {q : Prop} {w0 w w' : World} {x : BQ} {u v : Value} {b : Option Addr} (h : balM base q w0 w x u v) (hb : ∀ p, b = some p → ∃ cs, w.heap[p.block]? = some (.cells cs 37 (0, 0))) (hk : KeepB b w w') : balM base q w0 w' x u v := by
  obtain ⟨h1, h2, a, n, c, h3, h4⟩ := h
  refine ⟨h1, h2, a, n, c, h3, h4.imp id fun h => ⟨h.len, ⟨h.own.1, ?_⟩, h.bd⟩⟩
  rcases h.own.2 with h5 | ⟨g, c, cur, hv, hgb, hh, r⟩
  · exact .inl h5
  · refine .inr ⟨g, c, cur, hv, hgb, (hk g (Array.getElem?_eq_some_iff.1 hh).1 (fun p e2 e3 => ?_)).trans hh, r⟩
    obtain ⟨cs, e4⟩ := hb p e2
    rw [← e3, hh] at e4
    simp at e4
theorem batQ.keepA {base : Nat} {Q : Nat → Prop} {w0 w w' : World} {x : CQ} {u v : Value} {b : Option Addr} (h : batQ base Q w0 w x u v) (hb : ∀ p, b = some p → ∃ cs, w.heap[p.block]? = some (.cells cs 37 (0, 0))) (ha : ∀ p, b = some p → blkV v ≠ some p.block) (hk : KeepB b w w') : batQ base Q w0 w' x u v := by
  obtain ⟨h1, a, n, c, h3, hl, ps, h4, h5⟩ := h
  subst h3
  exact ⟨h1, a, n, c, rfl, hl, ps, h4.keepN (fun p q e1 e2 e3 => ha q e2 (by subst e1; simp [blkV, e3])) hk, fun i x p e1 e2 => (h5 i x p e1 e2).keepA hb hk⟩
/-- A block of another type was written. -/
theorem balM.keepC {base : Nat} {t : TypeId} {q : Prop} {w0 w w' : World} {x : BQ} {u v : Value} {b : Option Addr} (h : balM base q w0 w x u v) (hb : ∀ p, b = some p → ∃ cs, w.heap[p.block]? = some (.cells cs t (0, 0))) (hne : t ≠ 3) (hk : KeepB b w w') : balM base q w0 w' x u v := by
  obtain ⟨h1, h2, a, n, c, h3, h4⟩ := h
  refine ⟨h1, h2, a, n, c, h3, h4.imp id fun h => ⟨h.len, ⟨h.own.1, ?_⟩, h.bd⟩⟩
  rcases h.own.2 with h5 | ⟨g, c, cur, hv, hgb, hh, r⟩
  · exact .inl h5
  · refine .inr ⟨g, c, cur, hv, hgb, (hk g (Array.getElem?_eq_some_iff.1 hh).1 (fun p e2 e3 => ?_)).trans hh, r⟩
    obtain ⟨cs, e4⟩ := hb p e2
    rw [← e3, hh] at e4
    simp at e4
    exact hne e4.2.symm
theorem batQ.keepC {base : Nat} {t : TypeId} {Q : Nat → Prop} {w0 w w' : World} {x : CQ} {u v : Value} {b : Option Addr} (h : batQ base Q w0 w x u v) (hb : ∀ p, b = some p → ∃ cs, w.heap[p.block]? = some (.cells cs t (0, 0))) (hne : t ≠ 3) (hne2 : t ≠ 37) (hk : KeepB b w w') : batQ base Q w0 w' x u v := by
  obtain ⟨h1, a, n, c, h3, hl, ps, h4, h5⟩ := h
  subst h3
  refine ⟨h1, a, n, c, rfl, hl, ps, h4.keepN (fun p q e1 e2 e3 => ?_) hk, fun i x p e1 e2 => (h5 i x p e1 e2).keepC hb hne hk⟩
  obtain ⟨cs, e4⟩ := hb q e2
  obtain ⟨_, _, cs2, e5⟩ := h4.typed p e1
  rw [e3, e4] at e5
  simp at e5
  exact hne2 e5.2
theorem apart_snoc {ps : List PV} {p : PV} {n : Nat} (h : ApartV ps n) (hl : ps.length = n) (hp : blkV p.v = none) : ApartV (ps ++ [p]) (n + 1) := by
  have at' : ∀ (j : Nat) q b, (ps ++ [p])[j]? = some q → blkV q.v = some b → j < n ∧ ps[j]? = some q := fun j q b h1 h2 => by
    by_cases hj : j < n
    · rw [List.getElem?_append_left (by omega)] at h1
      exact ⟨hj, h1⟩
    · rw [List.getElem?_append_right (by omega)] at h1
      have h3 : j - ps.length = 0 := by
        have := (List.getElem?_eq_some_iff.1 h1).1
        simpa using this
      rw [h3] at h1
      simp at h1
      subst h1
      rw [hp] at h2
      cases h2
  intro j k q r b h1 h2 h3 e1 e2 hb hc
  obtain ⟨i1, f1⟩ := at' j q b e1 hb
  obtain ⟨i2, f2⟩ := at' k r b e2 hc
  exact h j k q r b i1 i2 h3 f1 f2 hb hc
theorem pt_snoc {α : Type} {F F' : α → PV → Prop} {l : List α} {ps : List PV} {x0 : α} {p0 : PV} (h : ∀ (j : Nat) x p, l[j]? = some x → ps[j]? = some p → F x p) (hl : l.length = ps.length) (h1 : ∀ x p, F x p → F' x p) (h2 : F' x0 p0) :
    ∀ (j : Nat) x p, (l ++ [x0])[j]? = some x → (ps ++ [p0])[j]? = some p → F' x p := fun j x p e1 e2 => by
  by_cases hj : j < l.length
  · rw [List.getElem?_append_left hj] at e1
    rw [List.getElem?_append_left (by omega)] at e2
    exact h1 _ _ (h j x p e1 e2)
  · rw [List.getElem?_append_right (by omega)] at e1 e2
    have h3 : j - l.length = 0 := by
      have := (List.getElem?_eq_some_iff.1 e1).1
      simpa using this
    rw [h3] at e1
    rw [show j - ps.length = 0 by omega] at e2
    simp at e1 e2
    subst e1
    subst e2
    exact h2
/-- The record with one ballot more. -/
def putC (l : List CQ) (name : ByteArray) (b : BQ) : List CQ :=
  if plcI l name = -1 then l ++ [⟨name, [b]⟩] else l.set (plcI l name).toNat ⟨(cth l (plcI l name).toNat).nm, (cth l (plcI l name).toNat).bs ++ [b]⟩
theorem batQ.rd {base : Nat} {Q : Nat → Prop} {w0 w : World} {x : CQ} {u v : Value} (h : batQ base Q w0 w x u v) (hb : Below w0.heap.size w0 w) : batE w x u v := by
  obtain ⟨h1, a, n, c, h3, h4⟩ := h
  exact ⟨h1, a, n, c, h3, h4.rd hb⟩
/-- A ballot appended: the row behind it. -/
theorem OwM.snoc {base : Nat} {w0 w w' : World} {a a' : Option Addr} {n c c' : Nat} {bs : List BQ} {ps : List PV} {p : PV} {y : BQ} {Q : Nat → Prop} (hl : bs.length = n) (hX : OwX 37 base w a n c ps)
    (hF : ∀ (i : Nat) x p, bs[i]? = some x → ps[i]? = some p → balM base (Q i) w0 w x p.u p.v) (hX' : OwX 37 base w' a' (n + 1) c' (ps ++ [p])) (hk : KeepB a w w') (hy : balM base (Q n) w0 w y p.u p.v) : OwM base Q w0 w' a' (n + 1) c' (bs ++ [y]) := by
  have ht : ∀ p, a = some p → ∃ cs, w.heap[p.block]? = some (.cells cs 37 (0, 0)) := fun p e => (hX.typed p e).2.2
  refine ⟨by simp [hl], _, hX', fun i x q h1 h2 => ?_⟩
  by_cases hi : i < n
  · rw [List.getElem?_append_left (by omega)] at h1
    rw [List.getElem?_append_left (by rw [hX.len]; exact hi)] at h2
    exact (hF i x q h1 h2).keepA ht hk
  · rw [List.getElem?_append_right (by omega)] at h1
    rw [List.getElem?_append_right (by rw [hX.len]; omega)] at h2
    have h3 : i - bs.length = 0 := by
      have := (List.getElem?_eq_some_iff.1 h1).1
      simpa using this
    have hin : i = n := by omega
    rw [h3] at h1
    rw [show i - ps.length = 0 by rw [hX.len]; omega] at h2
    simp at h1 h2
    subst h1
    subst h2
    rw [hin]
    exact hy.keepA ht hk
theorem putC_new {l : List CQ} {name : ByteArray} {b : BQ} (h : plcI l name = -1) : putC l name b = (l ++ [(⟨name, []⟩ : CQ)]).set l.length (⟨name, [] ++ [b]⟩ : CQ) := by
  unfold putC
  rw [if_pos h]
  have : ∀ (m : List CQ) (x y : CQ), m ++ [y] = (m ++ [x]).set m.length y := fun m x y => by
    induction m with
    | nil => rfl
    | cons z m ih => simp
  exact this _ _ _
theorem putC_at {l : List CQ} {name : ByteArray} {b : BQ} {i : Nat} (h : plcI l name = (i : Nat)) {x : CQ} (hx : l[i]? = some x) : putC l name b = l.set i ⟨x.nm, x.bs ++ [b]⟩ := by
  unfold putC
  rw [if_neg (by omega), h, Int.toNat_natCast, cth_of hx]
theorem cset_at {l : List CQ} {i j : Nat} {q p : CQ} (h : (l.set i q)[j]? = some p) : (j = i ∧ p = q) ∨ (j ≠ i ∧ l[j]? = some p) := by
  by_cases e : j = i
  · subst e
    left
    have hj := (List.getElem?_eq_some_iff.1 h).1
    rw [List.length_set] at hj
    rw [List.getElem?_set_self hj] at h
    exact ⟨rfl, (Option.some.inj h).symm⟩
  · right
    rw [List.getElem?_set_ne (Ne.symm e)] at h
    exact ⟨e, h⟩
/-- A record of the call's own. -/
def OwC (base : Nat) (w : World) (a : Option Addr) (n c : Nat) (l : List CQ) : Prop := l.length = n ∧ ∃ ps, OwX 79 base w a n c ps ∧ ∀ (i : Nat) x p, l[i]? = some x → ps[i]? = some p → batM base w w x p.u p.v
theorem OwC.rd {base : Nat} {w : World} {a : Option Addr} {n c : Nat} {l : List CQ} (h : OwC base w a n c l) : RdC w a n c l := by
  obtain ⟨h1, ps, h2, h3⟩ := h
  exact (x_ow2 (F := batM base w w) h2 h1 h3).rd fun x u v h => h.rd (Below.refl _ _)
theorem own_hi {w w' : World} {base : Nat} {e : TypeId} {size n : Nat} {v : Value} {xs : List Value} (h : w.ownsRow base e size v n xs) (hk : ∀ k, base ≤ k → k < w.heap.size → w'.heap[k]? = w.heap[k]?) : w'.ownsRow base e size v n xs := by
  refine ⟨h.1, ?_⟩
  rcases h.2 with h2 | ⟨g, c, cur, hv, hb, hh, r⟩
  · exact .inl h2
  · exact .inr ⟨g, c, cur, hv, hb, (hk g hb (Array.getElem?_eq_some_iff.1 hh).1).trans hh, r⟩
/-- Nothing from base on was written. -/
theorem OwC.hi {base : Nat} {w w' : World} {a : Option Addr} {n c : Nat} {l : List CQ} (h : OwC base w a n c l) (hk : ∀ k, base ≤ k → k < w.heap.size → w'.heap[k]? = w.heap[k]?) : OwC base w' a n c l := by
  obtain ⟨h1, ps, h2, h3⟩ := h
  refine ⟨h1, ps, ⟨h2.len, own_hi h2.own hk⟩, fun i x p e1 e2 => ?_⟩
  obtain ⟨g1, ab, nb, cb, g3, g4, qs, g5, g6⟩ := h3 i x p e1 e2
  refine ⟨g1, ab, nb, cb, g3, g4, qs, ⟨g5.len, own_hi g5.own hk⟩, fun j y q f1 f2 => ?_⟩
  obtain ⟨k1, k2, am, nm, cm, k3, k4⟩ := g6 j y q f1 f2
  exact ⟨k1, k2, am, nm, cm, k3, k4.imp (fun h => h.1.elim) fun h => ⟨h.len, own_hi h.own hk, h.bd⟩⟩
/-- A new record. -/
def RetPC (w : World) (l : List CQ) : Ending → World → Prop := fun e w' =>
  ∃ a c, e = .returned (.tuple #[.slice a l.length c, .int .i64 0]) ∧ OwC w.heap.size w' a l.length c l ∧ Below w.heap.size w w'

end Go.Proofs.Ythpjnbnheagpiaa
