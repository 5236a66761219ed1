/- What the laws about sheets lean on: appends and stores as single operations. No condition. Printed by gen_shei.py. -/
import Derived.Test.YtlfempfhohejiaaSheH
import Derived.Laws.AppendOwnNone
namespace Go.Proofs.Ytlfempfhohejiaa
open Go.RowKit Go.Suf
set_option linter.unusedVariables false
set_option linter.unusedSimpArgs false

theorem op_store_whole {P : Program} {o : Oper} {a : Act} {w : World} {K : Act → World → Prop} {Q : Exit → Act → World → Prop} (t : TypeId) (x y : Operand) (ho : o.op = .store t x y) {m : Nat} (A : AT P t m)
    {b : Nat} (cur vs : Array Value) (e : TypeId) (hg : w.heap[b]? = some (.cells cur e (0, 0))) (hx : a.eval x = .pointer (some ⟨b, 0, none⟩)) (hy : a.eval y = .agg vs) (hm : vs.size = m) (hcur : cur.size = m) (h1 : ∀ u ∈ vs.toList, u.oneCell' = true)
    (h : K (a.put o.dst undef) (w.setRow b vs)) : o.wp P a w K Q := by
  have hst := run_storeCells_at P b 0 e vs.toList 0 cur w hg (by simp; omega) h1
  simp only [Nat.add_zero, List.take_zero, List.nil_append, Array.length_toList] at hst
  rw [List.drop_eq_nil_of_le (by simp; omega), List.append_nil, Array.toArray_toList] at hst
  unfold Oper.wp execOp
  simp only [ho, hx, hy, Instr.storeAt, Instr.sureAddr, Sem.run_bind, Sem.run_pure, Result.andThen_ok, storeVar, A.sizeOf, Value.cells, hm]
  simp only [ne_eq, not_true_eq_false, if_false, hst]
  exact h

/-- The append of one's own row, as one operation. -/
theorem opApp {P : Program} {o : Oper} {a : Act} {w : World} {K : Act → World → Prop} {Q : Exit → Act → World → Prop} (s x : Operand) (t : TypeId)
    (ho : o.op = .call { callee := .builtin .append, args := #[s, x], argTypes := #[t, t] }) {e : TypeId} {z : Value} {bs : Nat} (T : ET P t e z bs)
    (base : Nat) {a1 : Option Addr} {n1 cap1 : Nat} {cs : List Value} (hs : a.eval s = .slice a1 n1 cap1) (hown : w.ownsRow base e 1 (.slice a1 n1 cap1) n1 cs)
    {a2 : Option Addr} {n2 cap2 : Nat} {ds : List Value} (hx : a.eval x = .slice a2 n2 cap2) (hn2 : ds.length = n2) (hsl : Sl w a2 cap2 ds)
    (hm : n1 + n2 ≤ maxLen) (hbytes : (n1 + n2) * bs ≤ 140737488355328) (hbase : base ≤ w.heap.size)
    (h : ∀ a' cap' w', w'.ownsRow base e 1 (.slice a' (n1 + n2) cap') (n1 + n2) (cs ++ ds) → w.grownBy w' (Value.ownBlock (.slice a1 n1 cap1)) → Below base w w' →
      K (a.put o.dst (.slice a' (n1 + n2) cap')) w') : o.wp P a w K Q := by
  obtain ⟨i, hi, hz, h1, hby⟩ := T.info
  have below : ∀ {w'}, w.grownBy w' (Value.ownBlock (.slice a1 n1 cap1)) → Below base w w' := fun hg =>
    (Below.refl base w).grown hg hbase (fun k hk => (hown.lt k hk).1)
  cases a2 with
  | none =>
    have hc := hsl.nil rfl
    subst hc
    have hd : ds = [] := List.eq_nil_of_length_eq_zero (Nat.le_zero.1 hsl.le)
    subst hd
    simp at hn2
    subst hn2
    have hrun := run_append_owned_none (P := P) (w := w) base t o.type e i 1 T.ht hi _ n1 cs hown
    unfold Oper.wp
    simp [execOp, ho, resolve, invoke, builtin, hs, hx, hrun, Result.andThen]
    have h9 := h a1 cap1 w (by simpa using hown) ⟨rfl, rfl, rfl, Nat.le_refl _, fun _ _ _ => rfl⟩ (Below.refl _ _)
    simp only [Nat.add_zero] at h9
    exact h9
  | some ad =>
    refine wp_append_own w s x t ho base e i z 1 bs T.ht hi hz h1 hby T.hz (by decide) _ n1 cs hs hown ad n2 cap2 ds hx (by omega) (hsl.adds rfl) hsl.one hm hbytes hbase ?_
    intro v' w' hown' hg _
    rcases hown'.2 with ⟨hv, hn⟩ | ⟨g, cap', cur, hv, _⟩
    · subst hv
      have : n1 + n2 = 0 := hn
      have h' := h none 0 w' (by rw [this] at hown' ⊢; exact hown') hg (below hg)
      rw [this] at h'
      exact h'
    · subst hv
      exact h _ _ w' hown' hg (below hg)

theorem atBal : AT Try.prog 39 2 := ⟨⟨_, Try.underlying39, rfl⟩, by kernel_rfl⟩
theorem bal_one (k : Int) (a : Option Addr) (n c : Nat) : ∀ u ∈ (#[.int .u8 k, .slice a n c] : Array Value).toList, u.oneCell' = true := by
  intro u hu
  simp at hu
  rcases hu with rfl | rfl <;> rfl
/-- A row is not in a block of another type. -/
theorem own_block_ne {base g : Nat} {e t : TypeId} {w : World} {v : Value} {n : Nat} {xs : List Value} {cs : Array Value} (h : w.ownsRow base e 1 v n xs) (hg : w.heap[g]? = some (.cells cs t (0, 0))) (hne : t ≠ e) : v.ownBlock ≠ some g := by
  rcases h.2 with ⟨rfl, _⟩ | ⟨b, cap, cur, rfl, _, hh, _⟩
  · simp [Value.ownBlock]
  · simp [Value.ownBlock]
    rintro rfl
    rw [hg] at hh
    simp at hh
    exact hne hh.2
theorem PRow.grown {base : Nat} {t e : TypeId} {w w1 w2 : World} {k m : Nat} {cs : Array Value} {v : Value} {vs : List Value} (h : PRow t w w1 k cs) (hne : t ≠ e) (hv : w1.ownsRow base e 1 v m vs) (hg : w1.grownBy w2 v.ownBlock) (hb : Below w.heap.size w1 w2) : PRow t w w2 k cs :=
  ⟨h.below.trans hb, (hg.block k h.lt (fun e2 => own_block_ne hv h.row hne e2.symm)).trans h.row, h.lo, Nat.lt_of_lt_of_le h.lt hb.size⟩
theorem own_setRow {base g : Nat} {e t : TypeId} {w : World} {v : Value} {n : Nat} {xs : List Value} {cs : Array Value} (h : w.ownsRow base e 1 v n xs) (hg : w.heap[g]? = some (.cells cs t (0, 0))) (hne : t ≠ e) (cs' : Array Value) : (w.setRow g cs').ownsRow base e 1 v n xs := by
  refine ⟨h.1, ?_⟩
  rcases h.2 with h2 | ⟨b, c, cur, hv, hb, hh, r⟩
  · exact .inl h2
  · refine .inr ⟨b, c, cur, hv, hb, ?_, r⟩
    have : b ≠ g := by
      rintro rfl
      rw [hg] at hh
      simp at hh
      exact hne hh.2
    exact (setRow_other _ _ _ _ this).trans hh

end Go.Proofs.Ytlfempfhohejiaa
