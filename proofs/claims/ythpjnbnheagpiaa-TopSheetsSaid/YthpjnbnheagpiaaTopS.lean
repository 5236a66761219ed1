/- Records: own rows of pairs of any type, own ballots and batches, the store of a pair. No condition. -/
import Derived.Test.YthpjnbnheagpiaaTopR
namespace Go.Proofs.Ythpjnbnheagpiaa
open Go.RowKit Go.Suf
set_option linter.unusedVariables false
set_option linter.unusedSimpArgs false

/-- A row of pairs of the call's own, of elements of type e. -/
structure OwX (e : TypeId) (base : Nat) (w : World) (a : Option Addr) (n cap : Nat) (vs : List PV) : Prop where
  len : vs.length = n
  own : w.ownsRow base e 2 (.slice a n cap) n (pfl vs)
section
variable {e t : TypeId} {base base' : Nat} {w w' : World} {a : Option Addr} {n cap : Nat} {vs : List PV}
theorem OwX.below (h : OwX e base w a n cap vs) (hb : Below w.heap.size w w') : OwX e base w' a n cap vs :=
  ⟨h.len, h.own.kept (row := none) ⟨hb.os, hb.tape, hb.output, hb.size, fun k hk _ => hb.block k hk⟩ (by cases (Value.slice a n cap).ownBlock <;> simp)⟩
theorem OwX.nil (e : TypeId) (base : Nat) (w : World) : OwX e base w none 0 0 [] := ⟨rfl, World.ownsRow_nil w base _ 2⟩
theorem OwX.base_le (h : OwX e base w a n cap vs) (hb : base' ≤ base) : OwX e base' w a n cap vs := by
  refine ⟨h.len, ⟨h.own.1, ?_⟩⟩
  rcases h.own.2 with h2 | ⟨g, c, cur, hv, hg, r⟩
  · exact .inl h2
  · exact .inr ⟨g, c, cur, hv, by omega, r⟩
theorem OwX.row (h : OwX e base w a n cap vs) (hp : 0 < n) :
    ∃ g cur, a = some ⟨g, 0, none⟩ ∧ base ≤ g ∧ w.heap[g]? = some (.cells cur e (0, 0)) ∧ n ≤ cap ∧ cap ≤ maxLen ∧ cur.size = cap * 2 ∧ ∀ (j : Nat) (u : Value), (pfl vs)[j]? = some u → cur[j]? = some u := by
  rcases h.own.2 with ⟨hv, hn⟩ | ⟨g, cap', cur, hv, hg, hh, hnc, hm, hsz, htake⟩
  · omega
  · simp at hv
    obtain ⟨rfl, rfl⟩ := hv
    refine ⟨g, cur, rfl, hg, hh, hnc, hm, hsz, fun j u hu => ?_⟩
    rw [← htake] at hu
    have hj := (List.getElem?_eq_some_iff.1 hu).1
    rw [List.getElem?_take_of_lt (by simp at hj; omega)] at hu
    simpa using hu
theorem OwX.rd (h : OwX e base w a n cap vs) : RdP w a n cap vs := by
  rcases Nat.eq_zero_or_pos n with h0 | hp
  · subst h0
    have hx : vs = [] := List.eq_nil_of_length_eq_zero h.len
    subst hx
    rcases h.own.2 with ⟨hv, hn⟩ | ⟨g, cap', cur, hv, hg, hh, hnc, hm, hsz, htake⟩
    · simp at hv
      obtain ⟨rfl, rfl⟩ := hv
      exact ⟨rfl, Nat.le_refl _, Nat.zero_le _, fun _ => rfl, fun i hi => absurd hi (by omega), fun _ _ => trivial⟩
    · simp at hv
      obtain ⟨rfl, rfl⟩ := hv
      exact ⟨rfl, hnc, hm, fun e => by simp at e, fun i hi => absurd hi (by omega), fun _ _ => trivial⟩
  · obtain ⟨g, cur, rfl, _, hh, hc, hm, _, hcur⟩ := h.row hp
    exact rdP_row h.len hh hc hm hcur fun _ _ => trivial
theorem OwX.typed (h : OwX e base w a n cap vs) : ∀ p, a = some p → base ≤ p.block ∧ p.block < w.heap.size ∧ ∃ cs, w.heap[p.block]? = some (.cells cs e (0, 0)) := by
  rcases h.own.2 with ⟨hv, hn⟩ | ⟨g, cap', cur, hv, hg, hh, hnc, hm, hsz, htake⟩
  · simp at hv
    intro p hp
    rw [hv.1] at hp
    cases hp
  · simp at hv
    intro p hp
    rw [hv.1] at hp
    cases hp
    exact ⟨hg, (Array.getElem?_eq_some_iff.1 hh).1, cur, hh⟩
/-- Another block was written. -/
theorem OwX.keepN {b : Option Addr} (h : OwX e base w a n cap vs) (hne : ∀ p q, a = some p → b = some q → p.block ≠ q.block) (hk : KeepB b w w') : OwX e base w' a n cap vs := by
  refine ⟨h.len, ⟨h.own.1, ?_⟩⟩
  rcases h.own.2 with h2 | ⟨g, c2, cur, hv, hb, hh, r⟩
  · exact .inl h2
  · refine .inr ⟨g, c2, cur, hv, hb, (hk g (Array.getElem?_eq_some_iff.1 hh).1 (fun p e2 => ?_)).trans hh, r⟩
    simp at hv
    exact hne _ p hv.1 e2
/-- A block of another type was written. -/
theorem OwX.keepT {g : Nat} {cs : Array Value} (h : OwX e base w a n cap vs) (hg : w.heap[g]? = some (.cells cs t (0, 0))) (hne : t ≠ e) (hk : KeepB (some ⟨g, 0, none⟩) w w') : OwX e base w' a n cap vs :=
  h.keepN (fun p q h1 h2 h3 => by
    cases h2
    obtain ⟨_, _, c, hc⟩ := h.typed p h1
    have h4 : p.block = g := h3
    rw [h4, hg] at hc
    simp at hc
    exact hne hc.2) hk
theorem OwX.free {g : Nat} (h : OwX e base w (some ⟨g, 0, none⟩) n cap vs) (i : Nat) : w.frozen? ⟨g, i, none⟩ = false := h.own.frozenAt i
theorem OwX.setV {g : Nat} (h : OwX e base w (some ⟨g, 0, none⟩) n cap vs) {i : Nat} (hi : i < n) {x : Value} (hx : x.oneCell' = true) :
    OwX e base (w.setCell ⟨g, i * 2 + 1, none⟩ x) (some ⟨g, 0, none⟩) n cap (vs.set i ⟨(pth vs i).u, x, (pth vs i).hu, hx⟩) := by
  refine ⟨by rw [List.length_set]; exact h.len, ?_⟩
  rw [pfl_setV vs i x hx (by rw [h.len]; exact hi)]
  exact (h.own.stored (i * 2 + 1) x).1
theorem ow2_x {α : Type} {F : α → Value → Value → Prop} {l : List α} (h : Ow2 F e base w a n cap l) :
    ∃ ps, OwX e base w a n cap ps ∧ ∀ (i : Nat) x p, l[i]? = some x → ps[i]? = some p → F x p.u p.v := by
  obtain ⟨cs, h1, h2, h3⟩ := h.own
  have hl := h.len
  obtain ⟨ps, rfl⟩ := pairs_pv cs fun x hx => by
    obtain ⟨i, hi, e⟩ := List.getElem_of_mem hx
    exact (h3 i l[i] x (List.getElem?_eq_getElem (by omega)) (by rw [← e]; exact List.getElem?_eq_getElem hi)).2
  rw [flat_pv] at h2
  refine ⟨ps, ⟨by rw [← h1, List.length_map], h2⟩, fun i x p hx hp => ?_⟩
  exact (h3 i x (p.u, p.v) hx (by rw [List.getElem?_map, hp]; rfl)).1
theorem x_ow2 {α : Type} {F : α → Value → Value → Prop} {l : List α} {ps : List PV} (h : OwX e base w a n cap ps) (hl : l.length = n) (hF : ∀ (i : Nat) x p, l[i]? = some x → ps[i]? = some p → F x p.u p.v) : Ow2 F e base w a n cap l := by
  refine ⟨hl, ps.map fun p => (p.u, p.v), by rw [List.length_map]; exact h.len, by rw [flat_pv]; exact h.own, fun i x c hx hc => ?_⟩
  rw [List.getElem?_map] at hc
  cases hp : ps[i]? with
  | none => rw [hp] at hc; cases hc
  | some p =>
    rw [hp] at hc
    simp only [Option.map_some, Option.some.injEq] at hc
    subst hc
    exact ⟨hF i x p hx hp, p.hu, p.hv⟩
end
theorem pfl_set : ∀ (vs : List PV) (i : Nat) (p : PV), i < vs.length → pfl (vs.set i p) = (pfl vs).take (i * 2) ++ pcl p ++ (pfl vs).drop (i * 2 + 2)
  | [], i, p, h => by simp at h
  | v :: vs, 0, p, h => by
    show pcl p ++ pfl vs = _
    rw [Nat.zero_mul, List.take_zero, List.nil_append, Nat.zero_add]
    rfl
  | v :: vs, i + 1, p, h => by
    have e : (i + 1) * 2 = (i * 2) + 1 + 1 := by omega
    show pcl v ++ pfl (vs.set i p) = (pcl v ++ pfl vs).take ((i + 1) * 2) ++ pcl p ++ (pcl v ++ pfl vs).drop ((i + 1) * 2 + 2)
    rw [pfl_set vs i p (by simpa using h), e]
    rfl
/-- A pair is stored whole into an own row: as one operation. -/
theorem op_store_x {P : Program} {o : Oper} {ac : Act} {w : World} {K : Act → World → Prop} {Q : Exit → Act → World → Prop} (t : TypeId) (x y : Operand) (ho : o.op = .store t x y) (A : AT P t 2)
    {e : TypeId} {base g n cap i : Nat} {vs : List PV} (hX : OwX e base w (some ⟨g, 0, none⟩) n cap vs) (hi : i < n) (p : PV)
    (hx : ac.eval x = .pointer (some ⟨g, i * 2, none⟩)) (hy : ac.eval y = .agg #[p.u, p.v])
    (h : ∀ w', OwX e base w' (some ⟨g, 0, none⟩) n cap (vs.set i p) → KeepB (some ⟨g, 0, none⟩) w w' → Below base w w' → w'.heap.size = w.heap.size → K (ac.put o.dst undef) w') : o.wp P ac w K Q := by
  obtain ⟨g', cur, e1, hgb, hg, hnc, hmx, hsz, hcur⟩ := hX.row (by omega)
  obtain rfl : g = g' := by simpa using e1
  have h1 : ∀ u ∈ (#[p.u, p.v] : Array Value).toList, u.oneCell' = true := by
    intro u hu
    simp at hu
    rcases hu with rfl | rfl
    · exact p.hu
    · exact p.hv
  have hst := run_storeCells_at P g (i * 2) e (#[p.u, p.v] : Array Value).toList 0 cur w hg (by simp; omega) h1
  unfold Oper.wp execOp
  simp only [ho, hx, hy, Instr.storeAt, Instr.sureAddr, Sem.run_bind, Sem.run_pure, Result.andThen_ok, storeVar, A.sizeOf, Value.cells]
  simp only [List.size_toArray, List.length_cons, List.length_nil, Nat.zero_add, Nat.reduceAdd, ne_eq, not_true_eq_false, if_false, hst]
  refine h _ ⟨by rw [List.length_set]; exact hX.len, ?_⟩ (fun k hk hne => setRow_other _ _ _ _ (show k ≠ g from hne ⟨g, 0, none⟩ rfl)) (below_set (Below.refl _ _) hgb _) (setRow_size _ _ _)
  have hl := hX.len
  rcases hX.own.2 with ⟨hv, _⟩ | ⟨g2, cap2, cur2, hv, hg2, hh2, hnc2, hm2, hsz2, htk⟩
  · simp at hv
  simp at hv
  obtain ⟨rfl, rfl⟩ := hv
  rw [hg] at hh2
  simp at hh2
  subst hh2
  have hcl : cur.toList.length = cap * 2 := by simpa using hsz
  refine ⟨by rw [pfl_length, List.length_set, hl], .inr ⟨g, cap, _, rfl, hgb, setRow_heap _ _ _ _ _ _ hg, hnc, hmx, ?_, ?_⟩⟩
  · simp
    omega
  · rw [pfl_set vs i p (by omega), ← htk, List.toList_toArray]
    simp only [Nat.add_zero, List.length_cons, List.length_nil, Nat.zero_add, Nat.reduceAdd]
    apply List.ext_getElem?
    intro j
    have ht : (cur.toList.take (i * 2)).length = i * 2 := by rw [List.length_take]; omega
    have ht2 : ((cur.toList.take (n * 2)).take (i * 2)).length = i * 2 := by rw [List.length_take, List.length_take]; omega
    rw [List.getElem?_take]
    by_cases hj : j < i * 2
    · rw [if_pos (by omega), List.append_assoc, List.append_assoc, List.getElem?_append_left (by omega), List.getElem?_append_left (by omega)]
      rw [List.getElem?_take_of_lt hj, List.getElem?_take_of_lt hj, List.getElem?_take_of_lt (by omega)]
    · have hq1 : (cur.toList.take (i * 2)).length ≤ j := by omega
      have hq2 : ((cur.toList.take (n * 2)).take (i * 2)).length ≤ j := by omega
      by_cases hj2 : j < i * 2 + 2
      · have hq3 : j - i * 2 < ([p.u, p.v] : List Value).length := by simp; omega
        rw [if_pos (by omega), List.append_assoc, List.append_assoc, List.getElem?_append_right hq1, ht, List.getElem?_append_left hq3]
        rw [List.getElem?_append_right hq2, ht2]
        exact (List.getElem?_append_left (l₁ := [p.u, p.v]) hq3).symm
      · have hq3 : ([p.u, p.v] : List Value).length ≤ j - i * 2 := by simp; omega
        rw [List.append_assoc, List.append_assoc, List.getElem?_append_right hq1, ht, List.getElem?_append_right hq3]
        rw [List.getElem?_append_right hq2, ht2]
        show _ = ([p.u, p.v] ++ (cur.toList.take (n * 2)).drop (i * 2 + 2))[j - i * 2]?
        rw [List.getElem?_append_right hq3]
        simp only [List.length_cons, List.length_nil, Nat.zero_add, Nat.reduceAdd]
        rw [List.getElem?_drop, List.getElem?_drop, List.getElem?_take, show i * 2 + 2 + (j - i * 2 - 2) = j by omega]
/-- A ballot whose marks are the call's own or, where q holds, lie as they lay in w0. -/
def balM (base : Nat) (q : Prop) (w0 w : World) (x : BQ) (u v : Value) : Prop := u = .int .u8 ((x.kd : Nat) : Int) ∧ x.kd < 256 ∧ ∃ a n c, v = .slice a n c ∧ ((q ∧ RdI w0 a n c x.ms) ∨ OwI base w a n c x.ms)
theorem balM.below {base : Nat} {q : Prop} {w0 w w' : World} {x : BQ} {u v : Value} (h : balM base q w0 w x u v) (hb : Below w.heap.size w w') : balM base q w0 w' x u v := by
  obtain ⟨h1, h2, a, n, c, h3, h4⟩ := h
  exact ⟨h1, h2, a, n, c, h3, h4.imp id fun h => h.below hb⟩
theorem balM.base_le {base base' : Nat} {q : Prop} {w0 w : World} {x : BQ} {u v : Value} (h : balM base q w0 w x u v) (hb : base' ≤ base) : balM base' q w0 w x u v := by
  obtain ⟨h1, h2, a, n, c, h3, h4⟩ := h
  exact ⟨h1, h2, a, n, c, h3, h4.imp id fun h => h.base_le hb⟩
theorem balM.weak {base : Nat} {q q' : Prop} {w0 w : World} {x : BQ} {u v : Value} (h : balM base q w0 w x u v) (hq : q → q') : balM base q' w0 w x u v := by
  obtain ⟨h1, h2, a, n, c, h3, h4⟩ := h
  exact ⟨h1, h2, a, n, c, h3, h4.imp (fun h => ⟨hq h.1, h.2⟩) id⟩
theorem balM.keepT {base g : Nat} {q : Prop} {t : TypeId} {w0 w w' : World} {x : BQ} {u v : Value} {cs : Array Value} (h : balM base q w0 w x u v) (hg : w.heap[g]? = some (.cells cs t (0, 0))) (hne : t ≠ 3) (hk : KeepB (some ⟨g, 0, none⟩) w w') : balM base q w0 w' x u v := by
  obtain ⟨h1, h2, a, n, c, h3, h4⟩ := h
  exact ⟨h1, h2, a, n, c, h3, h4.imp id fun h => h.keepB hg hne hk⟩
theorem balM.rd {base : Nat} {q : Prop} {w0 w : World} {x : BQ} {u v : Value} (h : balM base q w0 w x u v) (hb : Below w0.heap.size w0 w) : balE w x u v := by
  obtain ⟨h1, h2, a, n, c, h3, h4⟩ := h
  exact ⟨h1, h2, a, n, c, h3, h4.elim (fun h => h.2.below hb) fun h => h.rd oneI⟩
theorem balM.of {base : Nat} {q : Prop} {w0 w : World} {x : BQ} {u v : Value} (h : balE w0 x u v) (hq : q) : balM base q w0 w x u v := by
  obtain ⟨h1, h2, a, n, c, h3, h4⟩ := h
  exact ⟨h1, h2, a, n, c, h3, .inl ⟨hq, h4⟩⟩
theorem balM.any {base : Nat} {w0 w1 w : World} {x : BQ} {u v : Value} (h : balM base False w0 w x u v) : balM base False w1 w x u v := by
  obtain ⟨h1, h2, a, n, c, h3, h4⟩ := h
  exact ⟨h1, h2, a, n, c, h3, h4.imp (fun h => h.1.elim) id⟩
/-- A row of ballots of the call's own. -/
def OwM (base : Nat) (Q : Nat → Prop) (w0 w : World) (a : Option Addr) (n c : Nat) (bs : List BQ) : Prop := bs.length = n ∧ ∃ ps, OwX 37 base w a n c ps ∧ ∀ (i : Nat) x p, bs[i]? = some x → ps[i]? = some p → balM base (Q i) w0 w x p.u p.v
theorem OwM.below {base : Nat} {Q : Nat → Prop} {w0 w w' : World} {a : Option Addr} {n c : Nat} {bs : List BQ} (h : OwM base Q w0 w a n c bs) (hb : Below w.heap.size w w') : OwM base Q w0 w' a n c bs := by
  obtain ⟨h1, ps, h2, h3⟩ := h
  exact ⟨h1, ps, h2.below hb, fun i x p e1 e2 => (h3 i x p e1 e2).below hb⟩
theorem OwM.base_le {base base' : Nat} {Q : Nat → Prop} {w0 w : World} {a : Option Addr} {n c : Nat} {bs : List BQ} (h : OwM base Q w0 w a n c bs) (hb : base' ≤ base) : OwM base' Q w0 w a n c bs := by
  obtain ⟨h1, ps, h2, h3⟩ := h
  exact ⟨h1, ps, h2.base_le hb, fun i x p e1 e2 => (h3 i x p e1 e2).base_le hb⟩
theorem OwM.weak {base : Nat} {Q Q' : Nat → Prop} {w0 w : World} {a : Option Addr} {n c : Nat} {bs : List BQ} (h : OwM base Q w0 w a n c bs) (hq : ∀ i, i < n → Q i → Q' i) : OwM base Q' w0 w a n c bs := by
  obtain ⟨h1, ps, h2, h3⟩ := h
  exact ⟨h1, ps, h2, fun i x p e1 e2 => (h3 i x p e1 e2).weak (hq i (by rw [← h1]; exact (List.getElem?_eq_some_iff.1 e1).1))⟩
theorem OwM.typed {base : Nat} {Q : Nat → Prop} {w0 w : World} {a : Option Addr} {n c : Nat} {bs : List BQ} (h : OwM base Q w0 w a n c bs) : ∀ p, a = some p → base ≤ p.block ∧ p.block < w.heap.size ∧ ∃ cs, w.heap[p.block]? = some (.cells cs 37 (0, 0)) := by
  obtain ⟨h1, ps, h2, h3⟩ := h
  exact h2.typed
/-- A block was written that is neither the row's nor one of numbers. -/
theorem OwM.keep {base g : Nat} {t : TypeId} {Q : Nat → Prop} {w0 w w' : World} {a : Option Addr} {n c : Nat} {bs : List BQ} {cs : Array Value} (h : OwM base Q w0 w a n c bs) (hg : w.heap[g]? = some (.cells cs t (0, 0))) (hne : t ≠ 3) (ha : ∀ p, a = some p → p.block ≠ g) (hk : KeepB (some ⟨g, 0, none⟩) w w') : OwM base Q w0 w' a n c bs := by
  obtain ⟨h1, ps, h2, h3⟩ := h
  exact ⟨h1, ps, h2.keepN (fun p q e1 e2 => by cases e2; exact ha p e1) hk, fun i x p e1 e2 => (h3 i x p e1 e2).keepT hg hne hk⟩
theorem OwM.keepT {base g : Nat} {t : TypeId} {Q : Nat → Prop} {w0 w w' : World} {a : Option Addr} {n c : Nat} {bs : List BQ} {cs : Array Value} (h : OwM base Q w0 w a n c bs) (hg : w.heap[g]? = some (.cells cs t (0, 0))) (hne : t ≠ 3) (hne2 : t ≠ 37) (hk : KeepB (some ⟨g, 0, none⟩) w w') : OwM base Q w0 w' a n c bs :=
  h.keep hg hne (fun p e1 e2 => by
    obtain ⟨_, _, c2, hc⟩ := h.typed p e1
    rw [e2, hg] at hc
    simp at hc
    exact hne2 hc.2) hk
theorem OwM.rd {base : Nat} {Q : Nat → Prop} {w0 w : World} {a : Option Addr} {n c : Nat} {bs : List BQ} (h : OwM base Q w0 w a n c bs) (hb : Below w0.heap.size w0 w) : RdQ w a n c bs := by
  obtain ⟨h1, ps, h2, h3⟩ := h
  exact (x_ow2 (F := balE w) h2 h1 fun i x p e1 e2 => (h3 i x p e1 e2).rd hb).rd fun x u v h => h
/-- A batch whose ballots are the call's own. -/
def batQ (base : Nat) (Q : Nat → Prop) (w0 w : World) (x : CQ) (u v : Value) : Prop := u = .string x.nm ∧ ∃ a n c, v = .slice a n c ∧ OwM base Q w0 w a n c x.bs
abbrev batM (base : Nat) (w0 w : World) (x : CQ) (u v : Value) : Prop := batQ base (fun _ => False) w0 w x u v
/-- The block of a slice. -/
def blkV : Value → Option Nat
  | .slice (some p) _ _ => some p.block
  | _ => none
/-- The first i batches have ballots in blocks of their own. -/
def ApartV (ps : List PV) (i : Nat) : Prop := ∀ (j k : Nat) p q b, j < i → k < i → j ≠ k → ps[j]? = some p → ps[k]? = some q → blkV p.v = some b → blkV q.v ≠ some b
/-- A new list of batches. -/
def RetTC (w : World) (n : Nat) (l : List CQ) : Ending → World → Prop := fun e w' =>
  ∃ a c ps, e = .returned (.slice a n c) ∧ OwX 79 w.heap.size w' a n c ps ∧ (∀ (i : Nat) x p, l[i]? = some x → ps[i]? = some p → batM w.heap.size w w' x p.u p.v) ∧ ApartV ps n ∧ Below w.heap.size w w'

end Go.Proofs.Ythpjnbnheagpiaa
/- Records: a ballot's copy. Condition: at most 2^40 marks. Printed by gen_topt.py. -/
namespace Go.Proofs.Ythpjnbnheagpiaa
open Go.RowKit Go.Suf
set_option linter.unusedVariables false
set_option linter.unusedSimpArgs false

/-- A new ballot. -/
def RetCB (w : World) (kd n : Nat) (ms : List Int) : Ending → World → Prop := fun e w' =>
  ∃ a c, e = .returned (.agg #[.int .u8 ((kd : Nat) : Int), .slice a n c]) ∧ OwI w.heap.size w' a n c ms ∧ Below w.heap.size w w'
theorem own_setRowI {base g n cap : Nat} {t : TypeId} {w : World} {a : Option Addr} {xs : List Int} {cs : Array Value} (h : OwI base w a n cap xs) (hg : w.heap[g]? = some (.cells cs t (0, 0))) (hne : t ≠ 3) (cs' : Array Value) : OwI base (w.setRow g cs') a n cap xs :=
  ⟨h.len, own_setRow h.own hg hne cs', h.bd⟩
set_option maxRecDepth 100000 in
set_option maxHeartbeats 4000000 in
theorem copied_any (w : World) (kd : Nat) {a_m : Option Addr} {n_m c_m : Nat} {ms : List Int} (h_m : RdI w a_m n_m c_m ms) (hn : n_m ≤ 1099511627776) : Calls Try.prog 29 #[.agg #[.int .u8 ((kd : Nat) : Int), .slice a_m n_m c_m]] w (RetCB w kd n_m ms) := by
  have HM := Lib.hid h_m
  clear h_m
  have B0 : Below w.heap.size w w := Below.refl _ _
  go_enter Try.func29, Try.ntmps29
  have hb := below_al w (.cells #[.int .u8 ((kd : Nat) : Int), .slice a_m n_m c_m] 37)
  have B1 := B0.trans (hb.mono B0.size)
  clear hb B0
  have h_b_1 := PRow.new 37 w #[.int .u8 ((kd : Nat) : Int), .slice a_m n_m c_m]
  have HOB := Lib.hid B1
  have hb := below_al (w.alloc (.cells #[.int .u8 ((kd : Nat) : Int), .slice a_m n_m c_m] 37)) (.cells #[.int .u8 0, .slice none 0 0] 37)
  have B2 := B1.trans (hb.mono B1.size)
  have h_b_2 := h_b_1.later hb
  clear hb B1 h_b_1
  have h_o_2 := (PRow.new 37 (w.alloc (.cells #[.int .u8 ((kd : Nat) : Int), .slice a_m n_m c_m] 37)) #[.int .u8 0, .slice none 0 0]).base HOB.out
  simp only [World.size_alloc] at h_o_2
  have k_b_0 := h_b_2.cell 0 _ rfl
  have k_b_1 := h_b_2.cell 1 _ rfl
  go_wp2_with fail
  clear k_b_0 k_b_1
  generalize ((w.alloc (.cells #[.int .u8 ((kd : Nat) : Int), .slice a_m n_m c_m] 37)).alloc (.cells #[.int .u8 0, .slice none 0 0] 37)) = w2 at *
  have hlp := h_b_2.lt
  have hlo := h_o_2.lt
  have HSZ := Lib.hid B2.size
  refine (cloneI_any w2 (HM.out.below B2) hn).mono ?_
  rintro e w9 ⟨a9, c9, rfl, h9, hb⟩
  have B3 := B2.trans (hb.mono B2.size)
  have h_b_3 := h_b_2.later hb
  have h_o_3 := h_o_2.later hb
  clear hb B2 h_b_2 h_o_2
  have H9 := Lib.hid (h9.base_le HSZ.out)
  clear h9
  have k1 := h_b_3.cell 1 _ rfl
  have fp := h_b_3.free 1
  have P2 := h_b_3.set 1 (.slice a9 n_m c9)
  simp only [List.setIfInBounds_toArray, List.set_cons_zero, List.set_cons_succ] at P2
  have O2 := h_o_3.other (p := ⟨w.heap.size, 1, none⟩) (by show w.heap.size + 1 ≠ w.heap.size; omega) h_b_3.lo (.slice a9 n_m c9)
  have H2 := Lib.hid (H9.out.setHi h_b_3.row (by decide) (.slice a9 n_m c9) (i := 1))
  go_upto_region 2 with fail
  clear k1 fp h_b_3 h_o_3 B3
  generalize w9.setCell ⟨w.heap.size, 1, none⟩ (.slice a9 n_m c9) = wt at *
  have k0 := P2.cell 0 _ rfl
  have k1 := P2.cell 1 _ rfl
  go_wp2_with first | refine wpList_store_whole rfl 37 _ _ rfl atBal _ _ _ O2.row rfl rfl rfl rfl (bal_one _ _ _ _) ?_
  refine bodyPost_ret (results_cell_row rfl _ _ _ _ _ _ _ rfl (setRow_heap _ _ _ _ _ _ O2.row) Try.underlying37 rfl (by kernel_rfl)) rfl ?_
  exact ⟨a9, c9, rfl, own_setRowI H2.out O2.row (by decide) _, (O2.put _).below⟩

end Go.Proofs.Ythpjnbnheagpiaa
