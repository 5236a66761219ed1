/- What a slice value reads as in a world, and what a call owns: predicates and laws over any program, used by every walk of this seat. No condition. -/
import Derived.WalkKit
import Derived.WalkSpells
import Derived.WalkLawsBesides
import Derived.Laws.AppendOwnNone
import Derived.Laws.BytesArg
import Derived.Lib.Hide
namespace Go.Suf
open Go.RowKit

/-- The table's facts on a slice type 't' of elements 'e': the zero value is one cell. -/
structure ET (P : Program) (t e : TypeId) (z : Value) (bs : Nat) : Prop where
  ht : P.underlying t = some (.slice e)
  hi : (P.info? e).map (fun i => (i.zero, i.size, i.bytes)) = some (some z, 1, bs)
  hz : z.cells.size = 1

theorem ET.info {P : Program} {t e : TypeId} {z : Value} {bs : Nat} (T : ET P t e z bs) :
    ∃ i, P.info? e = some i ∧ i.zero = some z ∧ i.size = 1 ∧ i.bytes = bs := by
  have h := T.hi
  cases hq : P.info? e with
  | none => simp [hq] at h
  | some i =>
    simp [hq] at h
    exact ⟨i, rfl, h.1, h.2.1, h.2.2⟩

/-- The slice value at 'a' with capacity 'cap' reads as the cells 'cs'. -/
structure Sl (w : World) (a : Option Addr) (cap : Nat) (cs : List Value) : Prop where
  le : cs.length ≤ cap
  max : cap ≤ maxLen
  nil : a = none → cap = 0
  cell : ∀ i c, cs[i]? = some c → ∃ b off, a = some ⟨b, off, none⟩ ∧ w.cell? ⟨b, off + i, none⟩ = some c
  one : ∀ u ∈ cs, u.oneCell' = true

theorem Sl.addr {w : World} {a : Option Addr} {cap : Nat} {cs : List Value} (h : Sl w a cap cs) (hp : 0 < cs.length) :
    ∃ b off, a = some ⟨b, off, none⟩ ∧ ∀ i c, cs[i]? = some c → w.cell? ⟨b, off + i, none⟩ = some c := by
  obtain ⟨b, off, rfl, _⟩ := h.cell 0 cs[0] (by simp [List.getElem?_eq_getElem hp])
  refine ⟨b, off, rfl, fun i c hc => ?_⟩
  obtain ⟨b', off', e, hw⟩ := h.cell i c hc
  simp at e
  obtain ⟨rfl, rfl⟩ := e
  exact hw

/-- What lay in memory lies there still. -/
theorem cell_below {w w' : World} {p : Addr} {v : Value} (hb : Below w.heap.size w w') (h : w.cell? p = some v) : w'.cell? p = some v :=
  (hb.cell (World.block_lt_of_cell? w p h)).trans h

theorem Sl.below {w w' : World} {a : Option Addr} {cap : Nat} {cs : List Value} (h : Sl w a cap cs) (hb : Below w.heap.size w w') : Sl w' a cap cs :=
  ⟨h.le, h.max, h.nil, fun i c hc => by obtain ⟨b, off, e, hw⟩ := h.cell i c hc; exact ⟨b, off, e, cell_below hb hw⟩, h.one⟩

theorem Sl.empty (w : World) (a : Option Addr) (cap : Nat) (h : cap ≤ maxLen) (hn : a = none → cap = 0) : Sl w a cap [] :=
  ⟨Nat.zero_le _, h, hn, fun i c hc => by simp at hc, fun u hu => by simp at hu⟩

theorem Sl.adds {w : World} {a : Option Addr} {cap : Nat} {cs : List Value} (h : Sl w a cap cs) {ad : Addr} (ha : a = some ad) :
    ∀ j u, cs[j]? = some u → w.cell? (ad.add j) = some u := by
  intro j u hj
  obtain ⟨b, off, e, hw⟩ := h.cell j u hj
  rw [ha] at e
  simp at e
  subst e
  have : (⟨b, off, none⟩ : Addr).add j = ⟨b, off + j, none⟩ := by unfold Addr.add; split <;> simp_all
  rw [this]
  exact hw

/-- A part of a slice, from i up to j. -/
theorem Sl.part {w : World} {b off : Nat} {cap : Nat} {cs : List Value} (h : Sl w (some ⟨b, off, none⟩) cap cs) (i j k : Nat) (hij : i ≤ j) (hj : j ≤ cs.length) (hjk : j ≤ k) (hk : k ≤ cap) (off' : Nat) (ho : i < j → off' = off + i) :
    Sl w (some ⟨b, off', none⟩) (k - i) ((cs.take j).drop i) := by
  refine ⟨by simp; omega, by have := h.max; omega, fun e => by simp at e, fun m c hc => ?_, fun u hu => h.one u (List.mem_of_mem_take (List.mem_of_mem_drop hu))⟩
  rw [List.getElem?_drop, List.getElem?_take] at hc
  by_cases hm : i + m < j
  · rw [if_pos hm] at hc
    obtain ⟨b', off1, e, hw⟩ := h.cell _ _ hc
    simp at e
    obtain ⟨rfl, rfl⟩ := e
    refine ⟨b, off', rfl, ?_⟩
    rw [ho (by omega), Nat.add_assoc]
    exact hw
  · rw [if_neg hm] at hc
    simp at hc

/-- What is owned reads. -/
theorem sl_of_own {w : World} {base : Nat} {e : TypeId} {a : Option Addr} {n cap : Nat} {cs : List Value} (h : w.ownsRow base e 1 (.slice a n cap) n cs) (h1 : ∀ u ∈ cs, u.oneCell' = true) : Sl w a cap cs := by
  have hl := h.1
  simp at hl
  rcases h.2 with ⟨hv, hn⟩ | ⟨g, cap', cur, hv, hg, hh, hnc, hm, hsz, htake⟩
  · simp at hv
    obtain ⟨rfl, rfl, rfl⟩ := hv
    have : cs = [] := List.eq_nil_of_length_eq_zero (by omega)
    subst this
    exact Sl.empty w none 0 (Nat.zero_le _) (fun _ => rfl)
  · simp at hv
    obtain ⟨rfl, rfl⟩ := hv
    refine ⟨by omega, hm, fun e => by simp at e, fun i c hc => ⟨g, 0, rfl, ?_⟩, h1⟩
    rw [Nat.zero_add, cell_of_row w g i cur e (0, 0) hh]
    have hi : i < cs.length := by
      rcases Nat.lt_or_ge i cs.length with h | h
      · exact h
      · rw [List.getElem?_eq_none h] at hc; simp at hc
    rw [← htake, List.getElem?_take, if_pos (by omega)] at hc
    simpa using hc

/-- Where an owned row lies. -/
theorem own_block {w : World} {base : Nat} {e : TypeId} {a : Option Addr} {n cap : Nat} {cs : List Value} (h : w.ownsRow base e 1 (.slice a n cap) n cs) (hn : 0 < n) : ∃ g, a = some ⟨g, 0, none⟩ ∧ base ≤ g ∧ g < w.heap.size := by
  rcases h.2 with ⟨hv, rfl⟩ | ⟨g, cap', cur, hv, hg, hh, _⟩
  · exact absurd hn (Nat.lt_irrefl _)
  · simp at hv
    exact ⟨g, hv.1, hg, (Array.getElem?_eq_some_iff.1 hh).1⟩

theorem own_below {w w' : World} {base : Nat} {e : TypeId} {v : Value} {n : Nat} {cs : List Value} (h : w.ownsRow base e 1 v n cs) (hb : Below w.heap.size w w') : w'.ownsRow base e 1 v n cs :=
  h.kept (row := none) ⟨hb.os, hb.tape, hb.output, hb.size, fun k hk _ => hb.block k hk⟩ (by cases v.ownBlock <;> simp)

/-- 'append(s, x...)': s the call's own, x whatever reads. -/
theorem wpList_app {P : Program} {ops : Array Oper} {rest : List Oper} {o : Oper} {a : Act} {w : World} {Q : Exit → Act → World → Prop} (hgd : o.guard = none) (s x : Operand) (t : TypeId)
    (ho : o.op = .call { callee := .builtin .append, args := #[s, x], argTypes := #[t, t] }) {e : TypeId} {z : Value} {bs : Nat} (T : ET P t e z bs)
    (base : Nat) {a1 : Option Addr} {n1 cap1 : Nat} {cs : List Value} (hs : a.eval s = .slice a1 n1 cap1) (hown : w.ownsRow base e 1 (.slice a1 n1 cap1) n1 cs)
    {a2 : Option Addr} {n2 cap2 : Nat} {ds : List Value} (hx : a.eval x = .slice a2 n2 cap2) (hn2 : ds.length = n2) (hsl : Sl w a2 cap2 ds)
    (hm : n1 + n2 ≤ maxLen) (hbytes : (n1 + n2) * bs ≤ 140737488355328) (hbase : base ≤ w.heap.size)
    (h : ∀ a' cap' w', w'.ownsRow base e 1 (.slice a' (n1 + n2) cap') (n1 + n2) (cs ++ ds) → w.grownBy w' (Value.ownBlock (.slice a1 n1 cap1)) → Below base w w' →
      wpList P ops Q rest (a.put o.dst (.slice a' (n1 + n2) cap')) w') : wpList P ops Q (o :: rest) a w := by
  obtain ⟨i, hi, hz, h1, hby⟩ := T.info
  have below : ∀ {w'}, w.grownBy w' (Value.ownBlock (.slice a1 n1 cap1)) → Below base w w' := fun hg =>
    (Below.refl base w).grown hg hbase (fun k hk => (hown.lt k hk).1)
  cases a2 with
  | none =>
    have hc := hsl.nil rfl
    subst hc
    have hd : ds = [] := List.eq_nil_of_length_eq_zero (Nat.le_zero.1 hsl.le)
    subst hd
    simp at hn2
    subst hn2
    refine wpList_append_own_none hgd s x t ho base e i 1 T.ht hi _ n1 cs hs hown hx ?_
    have := h a1 cap1 w (by simpa using hown) ⟨rfl, rfl, rfl, Nat.le_refl _, fun _ _ _ => rfl⟩ (Below.refl _ _)
    simpa using this
  | some ad =>
    refine wpList_append_own w hgd s x t ho base e i z 1 bs T.ht hi hz h1 hby T.hz (by decide) _ n1 cs hs hown ad n2 cap2 ds hx (by omega) (hsl.adds rfl) hsl.one hm hbytes hbase ?_
    intro v' w' hown' hg _
    rcases hown'.2 with ⟨hv, hn⟩ | ⟨g, cap', cur, hv, _⟩
    · subst hv
      have : n1 + n2 = 0 := hn
      have h' := h none 0 w' (by rw [this] at hown' ⊢; exact hown') hg (below hg)
      rw [this] at h'
      exact h'
    · subst hv
      exact h _ _ w' hown' hg (below hg)

/-- The same, and what s was reads on behind it. -/
theorem wpList_app2 {P : Program} {ops : Array Oper} {rest : List Oper} {o : Oper} {a : Act} {w : World} {Q : Exit → Act → World → Prop} (hgd : o.guard = none) (s x : Operand) (t : TypeId)
    (ho : o.op = .call { callee := .builtin .append, args := #[s, x], argTypes := #[t, t] }) {e : TypeId} {z : Value} {bs : Nat} (T : ET P t e z bs)
    (base : Nat) {a1 : Option Addr} {n1 cap1 : Nat} {cs : List Value} (hs : a.eval s = .slice a1 n1 cap1) (hown : w.ownsRow base e 1 (.slice a1 n1 cap1) n1 cs) (hc1 : ∀ u ∈ cs, u.oneCell' = true)
    {a2 : Option Addr} {n2 cap2 : Nat} {ds : List Value} (hx : a.eval x = .slice a2 n2 cap2) (hn2 : ds.length = n2) (hsl : Sl w a2 cap2 ds)
    (hm : n1 + n2 ≤ maxLen) (hbytes : (n1 + n2) * bs ≤ 140737488355328) (hbase : base ≤ w.heap.size)
    (h : ∀ a' cap' w', w'.ownsRow base e 1 (.slice a' (n1 + n2) cap') (n1 + n2) (cs ++ ds) → w.grownBy w' (Value.ownBlock (.slice a1 n1 cap1)) → Below base w w' → Sl w' a1 cap1 cs →
      wpList P ops Q rest (a.put o.dst (.slice a' (n1 + n2) cap')) w') : wpList P ops Q (o :: rest) a w := by
  obtain ⟨i, hi, hz, h1, hby⟩ := T.info
  have hs0 := sl_of_own hown hc1
  have hl1 : cs.length = n1 := by have := hown.1; simpa using this
  have below : ∀ {w'}, w.grownBy w' (Value.ownBlock (.slice a1 n1 cap1)) → Below base w w' := fun hg =>
    (Below.refl base w).grown hg hbase (fun k hk => (hown.lt k hk).1)
  by_cases hroom : n1 + n2 ≤ cap1
  · cases a1 with
    | none =>
      have hc := hs0.nil rfl
      have hn1 : n1 = 0 := by omega
      have hn20 : n2 = 0 := by omega
      have hcs : cs = [] := List.eq_nil_of_length_eq_zero (by omega)
      have hds : ds = [] := List.eq_nil_of_length_eq_zero (by omega)
      subst hcs
      subst hds
      refine wpList_app hgd s x t ho T base hs hown hx hn2 hsl hm hbytes hbase fun a' cap' w' hown' hg hb => h a' cap' w' hown' hg hb ?_
      exact ⟨hs0.le, hs0.max, hs0.nil, fun i c hc => by simp at hc, fun u hu => by simp at hu⟩
    | some ad1 =>
      cases a2 with
      | none =>
        have hc := hsl.nil rfl
        subst hc
        have hd : ds = [] := List.eq_nil_of_length_eq_zero (Nat.le_zero.1 hsl.le)
        subst hd
        simp at hn2
        subst hn2
        refine wpList_append_own_none hgd s x t ho base e i 1 T.ht hi _ n1 cs hs hown hx ?_
        have := h (some ad1) cap1 w (by simpa using hown) ⟨rfl, rfl, rfl, Nat.le_refl _, fun _ _ _ => rfl⟩ (Below.refl _ _) hs0
        simpa using this
      | some ad2 =>
        obtain ⟨g, hg0⟩ : ∃ g, ad1 = ⟨g, 0, none⟩ := by
          rcases hown.2 with ⟨hv, _⟩ | ⟨g, cap', cur, hv, _⟩
          · simp at hv
          · simp at hv
            exact ⟨g, hv.1⟩
        subst hg0
        obtain ⟨w', hrun, hown', hgr⟩ := run_append_fits (P := P) w base t o.type e i 1 T.ht hi h1 g n1 cap1 cs hown ad2 n2 cap2 ds (by omega) (hsl.adds rfl) hsl.one hroom
        refine wpList_plain hgd fun K hK => ?_
        unfold Oper.wp
        simp [execOp, ho, resolve, invoke, builtin, hs, hx, hrun, Result.andThen]
        refine hK _ _ (h _ _ w' hown' hgr (below hgr) ?_)
        have hs' := sl_of_own hown' (fun u hu => by rw [List.mem_append] at hu; rcases hu with hu | hu; exact hc1 u hu; exact hsl.one u hu)
        refine ⟨hs0.le, hs0.max, hs0.nil, fun i c hc => hs'.cell i c ?_, hc1⟩
        have hi' : i < cs.length := by
          rcases Nat.lt_or_ge i cs.length with hh | hh
          · exact hh
          · rw [List.getElem?_eq_none hh] at hc; simp at hc
        rw [List.getElem?_append_left hi']
        exact hc
  · have hn2pos : 0 < ds.length := by have := hs0.le; omega
    obtain ⟨b2, off2, rfl, _⟩ := hsl.addr hn2pos
    cases a1 with
    | none =>
      have hc := hs0.nil rfl
      have hcs : cs = [] := List.eq_nil_of_length_eq_zero (by have := hs0.le; omega)
      subst hcs
      refine wpList_app hgd s x t ho T base hs hown hx hn2 hsl hm hbytes hbase fun a' cap' w' hown' hg hb => h a' cap' w' hown' hg hb ?_
      exact ⟨hs0.le, hs0.max, hs0.nil, fun i c hc => by simp at hc, fun u hu => by simp at hu⟩
    | some ad1 =>
      obtain ⟨v', w', hrun, hown', hgr⟩ := run_append_arg_grows (P := P) w t o.type e i z 1 bs T.ht hi hz h1 hby T.hz (by decide) ad1 n1 cap1 cs (by omega) (hs0.adds rfl) ⟨b2, off2, none⟩ n2 cap2 ds (by omega) (hsl.adds rfl) (by omega) hm hbytes
      have hbw : Below w.heap.size w w' := (Below.refl _ w).grown hgr (Nat.le_refl _) (fun k e => by cases e)
      have hgr' : w.grownBy w' (Value.ownBlock (.slice (some ad1) n1 cap1)) := ⟨hgr.os, hgr.tape, hgr.output, hgr.size, fun k hk _ => hgr.block k hk (by simp)⟩
      rcases hown'.2 with ⟨_, hz0⟩ | ⟨g, c', cur, hv, hg, r⟩
      · omega
      · subst hv
        refine wpList_plain hgd fun K hK => ?_
        unfold Oper.wp
        simp [execOp, ho, resolve, invoke, builtin, hs, hx, hrun, Result.andThen]
        exact hK _ _ (h _ _ w' ⟨hown'.1, .inr ⟨g, c', cur, rfl, by omega, r⟩⟩ hgr' (below hgr') (hs0.below hbw))

/-! ### Rows of plain numbers -/

/-- How many numbers a kind has (of the unsigned ones). -/
def lim : IntKind → Nat
  | .u8 => 256
  | .u16 => 65536
  | .u32 => 4294967296
  | .u64 => 18446744073709551616
  | _ => 9223372036854775808

def nums (k : IntKind) (xs : List Nat) : List Value := xs.map fun (x : Nat) => Value.int k (x : Int)

@[simp] theorem nums_length (k : IntKind) (xs : List Nat) : (nums k xs).length = xs.length := by simp [nums]
theorem nums_append (k : IntKind) (xs ys : List Nat) : nums k (xs ++ ys) = nums k xs ++ nums k ys := by simp [nums]
theorem nums_one (k : IntKind) (xs : List Nat) : ∀ u ∈ nums k xs, u.oneCell' = true := by
  intro u hu
  simp [nums] at hu
  obtain ⟨x, _, rfl⟩ := hu
  rfl

/-- The i-th number. -/
def nth (xs : List Nat) (i : Nat) : Nat := xs.getD i 0
theorem nth_eq {xs : List Nat} {i : Nat} (h : i < xs.length) : nth xs i = xs[i] := by simp [nth, h]
theorem nums_at (k : IntKind) (xs : List Nat) (i : Nat) (h : i < xs.length) : (nums k xs)[i]? = some (.int k (nth xs i : Nat)) := by
  simp [nums, nth, h]

/-- The slice of 'n' elements at 'a' reads as the numbers xs. -/
structure Rd (k : IntKind) (w : World) (a : Option Addr) (n cap : Nat) (xs : List Nat) : Prop where
  len : xs.length = n
  sl : Sl w a cap (nums k xs)
  bd : ∀ x ∈ xs, x < lim k

/-- The same, in memory of the call's own (from block 'base' on), which may be written. -/
structure Ow (k : IntKind) (e : TypeId) (base : Nat) (w : World) (a : Option Addr) (n cap : Nat) (xs : List Nat) : Prop where
  len : xs.length = n
  own : w.ownsRow base e 1 (.slice a n cap) n (nums k xs)
  bd : ∀ x ∈ xs, x < lim k

section
variable {k : IntKind} {e : TypeId} {base : Nat} {w w' : World} {a : Option Addr} {n cap : Nat} {xs ys : List Nat}

theorem Rd.le (h : Rd k w a n cap xs) : n ≤ cap := by have := h.sl.le; simp at this; have := h.len; omega
theorem Rd.lt (h : Rd k w a n cap xs) : n ≤ 9223372036854775807 := by have h1 := h.le; have h2 := h.sl.max; unfold maxLen at h2; omega

theorem Rd.below (h : Rd k w a n cap xs) (hb : Below w.heap.size w w') : Rd k w' a n cap xs := ⟨h.len, h.sl.below hb, h.bd⟩

theorem Rd.cell (h : Rd k w a n cap xs) (i : Nat) (hi : i < n) : ∃ b off, a = some ⟨b, off, none⟩ ∧ w.cell? ⟨b, off + i, none⟩ = some (.int k (nth xs i : Nat)) ∧ nth xs i < lim k := by
  have hl := h.len
  obtain ⟨b, off, e, hw⟩ := h.sl.cell i _ (nums_at k xs i (by omega))
  exact ⟨b, off, e, hw, by rw [nth_eq (by omega)]; exact h.bd _ (List.getElem_mem _)⟩

theorem Rd.addr (h : Rd k w a n cap xs) (hp : 0 < n) : ∃ b off, a = some ⟨b, off, none⟩ ∧ ∀ i, i < n → w.cell? ⟨b, off + i, none⟩ = some (.int k (nth xs i : Nat)) := by
  have hl := h.len
  obtain ⟨b, off, e, hw⟩ := h.sl.addr (by simp; omega)
  exact ⟨b, off, e, fun i hi => hw i _ (nums_at k xs i (by omega))⟩

theorem Rd.nth_lt (h : Rd k w a n cap xs) (i : Nat) (hi : i < n) : nth xs i < lim k := by
  have hl := h.len
  rw [nth_eq (by omega)]; exact h.bd _ (List.getElem_mem _)

theorem Rd.nil (k : IntKind) (w : World) : Rd k w none 0 0 [] := ⟨rfl, Sl.empty w none 0 (Nat.zero_le _) (fun _ => rfl), fun x hx => by simp at hx⟩

theorem Ow.nil (k : IntKind) (e : TypeId) (base : Nat) (w : World) : Ow k e base w none 0 0 [] := ⟨rfl, World.ownsRow_nil w base e 1, fun x hx => by simp at hx⟩

theorem Ow.rd (h : Ow k e base w a n cap xs) : Rd k w a n cap xs := ⟨h.len, sl_of_own h.own (nums_one k xs), h.bd⟩

theorem Ow.below (h : Ow k e base w a n cap xs) (hb : Below w.heap.size w w') : Ow k e base w' a n cap xs := ⟨h.len, own_below h.own hb, h.bd⟩

theorem Ow.base_le (h : Ow k e base w a n cap xs) {base' : Nat} (hb : base' ≤ base) : Ow k e base' w a n cap xs := by
  refine ⟨h.len, ⟨h.own.1, ?_⟩, h.bd⟩
  rcases h.own.2 with h2 | ⟨g, c, cur, hv, hg, r⟩
  · exact .inl h2
  · exact .inr ⟨g, c, cur, hv, by omega, r⟩

theorem Rd.part {b off : Nat} (h : Rd k w (some ⟨b, off, none⟩) n cap xs) (i j c : Nat) (hij : i ≤ j) (hj : j ≤ n) (hjk : j ≤ c) (hk : c ≤ cap) (off' : Nat) (ho : i < j → off' = off + i) :
    Rd k w (some ⟨b, off', none⟩) (j - i) (c - i) ((xs.take j).drop i) := by
  have hl := h.len
  refine ⟨by simp; omega, ?_, fun x hx => h.bd x (List.mem_of_mem_take (List.mem_of_mem_drop hx))⟩
  have := h.sl.part i j c hij (by simp; omega) hjk hk off' ho
  simpa [nums, List.map_take, List.map_drop] using this
end

/-! ### Parts of a slice -/

theorem sliced_rd {k : IntKind} {w : World} {a : Option Addr} {n cap : Nat} {xs : List Nat} (h : Rd k w a n cap xs) (l j m : Nat) (hlj : l ≤ j) (hj : j ≤ n) (hjm : j ≤ m) (hm : m ≤ cap) :
    ∃ a', sliced a l j m 1 = .slice a' (j - l) (m - l) ∧ Rd k w a' (j - l) (m - l) ((xs.take j).drop l) := by
  have hl := h.len
  have hmax := h.sl.max
  refine ⟨_, rfl, ?_⟩
  by_cases he : l < j
  · obtain ⟨b, off, rfl, _⟩ := h.addr (by omega)
    rw [if_neg (by omega)]
    have : (⟨b, off, none⟩ : Addr).add (l * 1) = ⟨b, off + l, none⟩ := by unfold Addr.add; split <;> simp_all
    simp only [Option.map_some, this]
    exact h.part l j m hlj hj hjm hm _ (fun _ => rfl)
  · obtain rfl : l = j := by omega
    have e : (xs.take l).drop l = [] := List.drop_eq_nil_of_le (by simp; omega)
    rw [e]
    refine ⟨by simp, Sl.empty _ _ _ (by omega) (fun hn => ?_), fun x hx => by simp at hx⟩
    have : a = none := by
      split at hn
      · exact hn
      · simpa using hn
    have := h.sl.nil this
    omega

section
variable {P : Program} {ops : Array Oper} {rest : List Oper} {o : Oper} {a : Act} {w : World} {Q : Exit → Act → World → Prop} {k : IntKind} {a1 : Option Addr} {n cap : Nat} {xs : List Nat} {t e : TypeId} {z : Value} {bs : Nat}

theorem run_sizeOf1 (T : ET P t e z bs) (w : World) : (sizeOf e).run P w = .ok 1 w := by
  obtain ⟨i, hi, _, h1, _⟩ := T.info
  simp [sizeOf, typeInfo, hi, h1]

theorem elem_of (T : ET P t e z bs) : P.elem t = e := by
  have := T.ht
  simp [Program.elem, this]

/-- 'x[i:j]'. -/
theorem wpList_part (hgd : o.guard = none) (x lo hi : Operand) (t : TypeId) (ho : o.op = .slice t x (some lo) (some hi) none) (T : ET P t e z bs) (h : Rd k w a1 n cap xs) (hx : a.eval x = .slice a1 n cap)
    {kl kh : IntKind} {I J : Int} (hlo : a.eval lo = .int kl I) (hhi : a.eval hi = .int kh J) (i j m : Nat) (hI : I = (i : Int)) (hJ : J = (j : Int)) (hij : i ≤ j) (hj : j ≤ n) (hm : j - i = m)
    (K : ∀ a' c', Rd k w a' m c' ((xs.take j).drop i) → wpList P ops Q rest (a.put o.dst (.slice a' m c')) w) : wpList P ops Q (o :: rest) a w := by
  subst hI
  subst hJ
  subst hm
  have ht' : P.underlying t = some (.slice (P.elem t)) := by rw [elem_of T]; exact T.ht
  have hle := h.le
  obtain ⟨a', e1, hr⟩ := sliced_rd h i j cap hij hj (by omega) (Nat.le_refl _)
  have hrun : (Instr.sliceAt t (.slice a1 n cap) (some (.int kl i)) (some (.int kh j)) none).run P w = .ok (.slice a' (j - i) (cap - i)) w := by
    rw [run_sliceAt_slice w t _ _ _ _ ht', run_slice_lh w t a1 n cap ht' kl kh i j (by omega) (by omega) (by omega), elem_of T, run_sizeOf1 T]
    simp [e1]
  refine wpList_plain hgd fun K' hK => ?_
  unfold Oper.wp
  simp [execOp, ho, hx, hlo, hhi, hrun, Result.andThen]
  exact hK _ _ (K a' _ hr)

/-- 'x[i:]'. -/
theorem wpList_from (hgd : o.guard = none) (x lo : Operand) (t : TypeId) (ho : o.op = .slice t x (some lo) none none) (T : ET P t e z bs) (h : Rd k w a1 n cap xs) (hx : a.eval x = .slice a1 n cap)
    {kl : IntKind} {I : Int} (hlo : a.eval lo = .int kl I) (i m : Nat) (hI : I = (i : Int)) (hi : i ≤ n) (hm : n - i = m)
    (K : ∀ a' c', Rd k w a' m c' (xs.drop i) → wpList P ops Q rest (a.put o.dst (.slice a' m c')) w) : wpList P ops Q (o :: rest) a w := by
  subst hI
  subst hm
  have ht' : P.underlying t = some (.slice (P.elem t)) := by rw [elem_of T]; exact T.ht
  have hle := h.le
  obtain ⟨a', e1, hr⟩ := sliced_rd h i n cap hi (Nat.le_refl _) (by omega) (Nat.le_refl _)
  rw [List.take_of_length_le (by have := h.len; omega)] at hr
  have hrun : (Instr.sliceAt t (.slice a1 n cap) (some (.int kl i)) none none).run P w = .ok (.slice a' (n - i) (cap - i)) w := by
    rw [run_sliceAt_slice w t _ _ _ _ ht', run_slice_l w t a1 n cap ht' kl i (by omega) (by omega), elem_of T, run_sizeOf1 T]
    simp [e1]
  refine wpList_plain hgd fun K' hK => ?_
  unfold Oper.wp
  simp [execOp, ho, hx, hlo, hrun, Result.andThen]
  exact hK _ _ (K a' _ hr)

/-- 'x[:j]'. -/
theorem wpList_upto (hgd : o.guard = none) (x hi : Operand) (t : TypeId) (ho : o.op = .slice t x none (some hi) none) (T : ET P t e z bs) (h : Rd k w a1 n cap xs) (hx : a.eval x = .slice a1 n cap)
    {kh : IntKind} {J : Int} (hhi : a.eval hi = .int kh J) (j : Nat) (hJ : J = (j : Int)) (hj : j ≤ n)
    (K : ∀ a', Rd k w a' j cap (xs.take j) → wpList P ops Q rest (a.put o.dst (.slice a' j cap)) w) : wpList P ops Q (o :: rest) a w := by
  subst hJ
  have ht' : P.underlying t = some (.slice (P.elem t)) := by rw [elem_of T]; exact T.ht
  have hle := h.le
  obtain ⟨a', e1, hr⟩ := sliced_rd h 0 j cap (Nat.zero_le _) hj (by omega) (Nat.le_refl _)
  simp only [Nat.sub_zero, List.drop_zero] at e1 hr
  have hrun : (Instr.sliceAt t (.slice a1 n cap) none (some (.int kh j)) none).run P w = .ok (.slice a' j cap) w := by
    rw [run_sliceAt_slice w t _ _ _ _ ht', run_slice_h w t a1 n cap ht' kh j (by omega) (by omega), elem_of T, run_sizeOf1 T]
    simp [e1]
  refine wpList_plain hgd fun K' hK => ?_
  unfold Oper.wp
  simp [execOp, ho, hx, hhi, hrun, Result.andThen]
  exact hK _ _ (K a' hr)

/-- 'x[:j:m]'. -/
theorem wpList_upto3 (hgd : o.guard = none) (x hi mx : Operand) (t : TypeId) (ho : o.op = .slice t x none (some hi) (some mx)) (T : ET P t e z bs) (h : Rd k w a1 n cap xs) (hx : a.eval x = .slice a1 n cap)
    {kh km : IntKind} {J M : Int} (hhi : a.eval hi = .int kh J) (hmx : a.eval mx = .int km M) (j m : Nat) (hJ : J = (j : Int)) (hM : M = (m : Int)) (hj : j ≤ n) (hjm : j ≤ m) (hm : m ≤ cap)
    (K : ∀ a', Rd k w a' j m (xs.take j) → wpList P ops Q rest (a.put o.dst (.slice a' j m)) w) : wpList P ops Q (o :: rest) a w := by
  subst hJ
  subst hM
  have ht' : P.underlying t = some (.slice (P.elem t)) := by rw [elem_of T]; exact T.ht
  have hle := h.le
  obtain ⟨a', e1, hr⟩ := sliced_rd h 0 j m (Nat.zero_le _) hj hjm hm
  simp only [Nat.sub_zero, List.drop_zero] at e1 hr
  have hrun : (Instr.sliceAt t (.slice a1 n cap) none (some (.int kh j)) (some (.int km m))).run P w = .ok (.slice a' j m) w := by
    rw [run_sliceAt_slice w t _ _ _ _ ht', run_slice_hm w t a1 n cap ht' kh km j m (by omega) (by omega) (by omega), elem_of T, run_sizeOf1 T]
    simp [e1]
  refine wpList_plain hgd fun K' hK => ?_
  unfold Oper.wp
  simp [execOp, ho, hx, hhi, hmx, hrun, Result.andThen]
  exact hK _ _ (K a' hr)
end

/-- Rows of two kinds of elements never share a block. -/
theorem own_apart {w : World} {b1 b2 : Nat} {e1 e2 : TypeId} {v v' : Value} {n n' : Nat} {xs xs' : List Value} (h : w.ownsRow b1 e1 1 v n xs) (h' : w.ownsRow b2 e2 1 v' n' xs') (he : e1 ≠ e2) : v.ownBlock = none ∨ v.ownBlock ≠ v'.ownBlock := by
  rcases h.2 with ⟨rfl, _⟩ | ⟨g, c, cur, rfl, _, hh, _⟩
  · exact .inl rfl
  · right
    intro e
    rcases h'.2 with ⟨rfl, _⟩ | ⟨g', c', cur', rfl, _, hh', _⟩
    · simp [Value.ownBlock] at e
    · simp [Value.ownBlock] at e
      subst e
      rw [hh] at hh'
      simp at hh'
      exact he hh'.2

theorem Ow.kept {k : IntKind} {e e' : TypeId} {base base' : Nat} {w w' : World} {a : Option Addr} {n cap n' : Nat} {xs : List Nat} {v : Value} {vs : List Value} {o : Obj} (h : Ow k e base w a n cap xs) (hv : w.ownsRow base' e' 1 v n' vs) (he : e ≠ e') (hg : (w.alloc o).grownBy w' v.ownBlock) : Ow k e base w' a n cap xs :=
  ⟨h.len, (h.own.alloc o).kept hg (own_apart h.own hv he), h.bd⟩

/-- A new one-cell block, as 'append(s, x)' of one element lays it. -/
theorem sl_new (w : World) (u : Value) (t : TypeId) (h1 : u.oneCell' = true) : Sl (w.alloc (.cells #[u] t)) (some ⟨w.heap.size, 0, none⟩) 1 [u] := by
  refine ⟨Nat.le_refl _, by decide, fun e => by simp at e, fun i c hc => ⟨w.heap.size, 0, rfl, ?_⟩, fun v hv => by simp at hv; subst hv; exact h1⟩
  have hi : i = 0 := by
    rcases Nat.eq_zero_or_pos i with h | h
    · exact h
    · rw [List.getElem?_eq_none (by simp; omega)] at hc; simp at hc
  subst hi
  simp at hc
  subst hc
  rw [cell_of_row _ _ _ _ _ _ (heap_alloc_new w _)]
  rfl

/-- A new block laid whole. -/
theorem sl_lit (w : World) (cs : List Value) (t : TypeId) (h1 : ∀ u ∈ cs, u.oneCell' = true) (hm : cs.length ≤ maxLen) : Sl (w.alloc (.cells cs.toArray t)) (some ⟨w.heap.size, 0, none⟩) cs.length cs := by
  refine ⟨Nat.le_refl _, hm, fun e => by simp at e, fun i c hc => ⟨w.heap.size, 0, rfl, ?_⟩, h1⟩
  rw [cell_of_row _ _ _ _ _ _ (heap_alloc_new w _)]
  simpa using hc

/-- A literal of numbers. -/
theorem rd_lit (k : IntKind) (w : World) (xs : List Nat) (t : TypeId) (n : Nat) (hn : xs.length = n) (hm : n ≤ maxLen) (hb : ∀ x ∈ xs, x < lim k) : Rd k (w.alloc (.cells (nums k xs).toArray t)) (some ⟨w.heap.size, 0, none⟩) n n xs := by
  have h := sl_lit w (nums k xs) t (nums_one k xs) (by simp; omega)
  simp only [nums_length, hn] at h
  exact ⟨hn, h, hb⟩

/-- 'x[:j]' as an equation on its run, in every world. -/
theorem run_upto {P : Program} {k : IntKind} {w : World} {a1 : Option Addr} {n cap : Nat} {xs : List Nat} {t e : TypeId} {z : Value} {bs : Nat} (T : ET P t e z bs) (h : Rd k w a1 n cap xs) (j : Nat) (hj : j ≤ n) :
    ∃ a', Rd k w a' j cap (xs.take j) ∧ (∀ W, (Instr.sliceAt t (.slice a1 n cap) none (some (.int .i64 (j : Int))) none).run P W = .ok (.slice a' j cap) W) ∧
      (∀ W, (Instr.slice t (.slice a1 n cap) none (some (.int .i64 (j : Int))) none).run P W = .ok (.slice a' j cap) W) := by
  have ht' : P.underlying t = some (.slice (P.elem t)) := by rw [elem_of T]; exact T.ht
  have hle := h.le
  obtain ⟨a', e1, hr⟩ := sliced_rd h 0 j cap (Nat.zero_le _) hj (by omega) (Nat.le_refl _)
  simp only [Nat.sub_zero, List.drop_zero] at e1 hr
  have hrun : ∀ W, (Instr.slice t (.slice a1 n cap) none (some (.int .i64 (j : Int))) none).run P W = .ok (.slice a' j cap) W := by
    intro W
    rw [run_slice_h W t a1 n cap ht' .i64 j (by omega) (by omega), elem_of T, run_sizeOf1 T]
    simp [e1]
  exact ⟨a', hr, fun W => by rw [run_sliceAt_slice W t _ _ _ _ ht']; exact hrun W, hrun⟩

/-- Zeros, behind a name. -/
def zs (n : Nat) : List Nat := List.replicate n 0
theorem zs_length (n : Nat) : (zs n).length = n := by simp [zs]

/-- A row of zeros, behind a name. -/
def zeros (k : IntKind) (n : Nat) : Array Value := (nums k (List.replicate n 0)).toArray

/-- 'make([]T, n)' in every world. -/
theorem run_zeros {P : Program} {t e : TypeId} {k : IntKind} {bs : Nat} (T : ET P t e (.int k 0) bs) (n : Nat) (hb : bs * n ≤ 281474976710656) (hm : n ≤ 9223372036854775807) (w : World) :
    (Instr.makeSlice t (.int .i64 (n : Int)) (.int .i64 (n : Int))).run P w = .ok (.slice (some ⟨w.heap.size, 0, none⟩) n n) (w.alloc (.cells (zeros k n) e)) := by
  obtain ⟨i, hi, hz, h1, hby⟩ := T.info
  have h2 := run_make (P := P) w t e i (.int k 0) T.ht hi hz .i64 .i64 (n : Int) (n : Int) (by omega) (Int.le_refl _) (by
    rw [hby]
    have : ((bs * n : Nat) : Int) ≤ 281474976710656 := by omega
    rwa [Int.natCast_mul] at this) (by omega)
  rw [h2]
  have e1 : madeCells (Value.cells (.int k 0)) ((n : Int).toNat * i.size) = zeros k n := by
    apply Array.ext'
    show (madeCells #[.int k 0] _).toList = _
    rw [toList_madeCells_one, h1]
    simp [zeros, nums]
  rw [e1]
  simp

theorem rd_zeros (k : IntKind) (w : World) (t : TypeId) (n : Nat) (hm : n ≤ maxLen) : Rd k (w.alloc (.cells (zeros k n) t)) (some ⟨w.heap.size, 0, none⟩) n n (zs n) := by
  unfold zs
  refine rd_lit k w (List.replicate n 0) t n (by simp) hm (fun x hx => ?_)
  rw [List.eq_of_mem_replicate hx]
  cases k <;> decide

/-! ### Structs and arrays: loaded and stored whole -/

/-- 't' is a struct or an array of m cells. -/
structure AT (P : Program) (t : TypeId) (m : Nat) : Prop where
  agg : ∃ d, P.underlying t = some d ∧ (match d with | .struct _ | .array _ _ => true | _ => false) = true
  size : (P.info? t).map (·.size) = some m

theorem AT.isAgg {P : Program} {t : TypeId} {m : Nat} (A : AT P t m) (w : World) : (Go.isAgg t).run P w = .ok true w := by
  obtain ⟨d, h1, h2⟩ := A.agg
  cases d <;> simp at h2 <;> simp [Go.isAgg, run_underlying h1]

theorem AT.sizeOf {P : Program} {t : TypeId} {m : Nat} (A : AT P t m) (w : World) : (Go.sizeOf t).run P w = .ok m w := by
  have h := A.size
  cases hq : P.info? t with
  | none => simp [hq] at h
  | some i =>
    simp [hq] at h
    simp [Go.sizeOf, typeInfo, hq, h]

theorem run_load_agg {P : Program} {t : TypeId} {m : Nat} (A : AT P t m) {w : World} {b off : Nat} (cs : List Value) (hm : cs.length = m) (hc : ∀ j u, cs[j]? = some u → w.cell? ⟨b, off + j, none⟩ = some u) :
    (loadVar t ⟨b, off, none⟩).run P w = .ok (.agg cs.toArray) w := by
  subst hm
  have hl := run_loadCells_list (P := P) w ⟨b, off, none⟩ cs (fun j v hv => by
    have hadd : (⟨b, off, none⟩ : Addr).add j = ⟨b, off + j, none⟩ := by unfold Addr.add; split <;> simp_all
    rw [hadd]
    exact hc j v hv)
  simp [loadVar, A.isAgg, A.sizeOf, hl, Result.andThen]

/-- A struct or an array is loaded whole. -/
theorem wpList_load_agg {P : Program} {ops : Array Oper} {rest : List Oper} {o : Oper} {a : Act} {w : World} {Q : Exit → Act → World → Prop} (hgd : o.guard = none) (t : TypeId) (x : Operand) (ho : o.op = .load t x) {m : Nat} (A : AT P t m)
    {b off : Nat} (hx : a.eval x = .pointer (some ⟨b, off, none⟩)) (cs : List Value) (hm : cs.length = m) (hc : ∀ j u, cs[j]? = some u → w.cell? ⟨b, off + j, none⟩ = some u)
    (h : wpList P ops Q rest (a.put o.dst (.agg cs.toArray)) w) : wpList P ops Q (o :: rest) a w := by
  refine wpList_plain hgd fun K hK => ?_
  unfold Oper.wp execOp
  simp only [ho, hx, Instr.loadAt, Instr.sureAddr, Sem.run_bind, Sem.run_pure, Result.andThen_ok, run_load_agg A cs hm hc]
  exact hK _ _ h

theorem setRow_alloc (w : World) (cur vs : Array Value) (e : TypeId) (f : Nat × Nat) : (w.alloc (.cells cur e f)).setRow w.heap.size vs = w.alloc (.cells vs e f) := by
  simp only [World.setRow, World.alloc]
  congr 1
  apply Array.ext
  · simp
  · intro i h1 h2
    simp only [Array.size_modify, Array.size_push] at h1
    rw [Array.getElem_modify]
    by_cases hi : i = w.heap.size
    · subst hi
      simp
    · have : i < w.heap.size := by omega
      simp [Array.getElem_push, this, Ne.symm hi]

/-- A struct or an array is stored whole into a block of its own that was just laid. -/
theorem wpList_store_new {P : Program} {ops : Array Oper} {rest : List Oper} {o : Oper} {a : Act} {w : World} {Q : Exit → Act → World → Prop} (hgd : o.guard = none) (t : TypeId) (x y : Operand) (ho : o.op = .store t x y) {m : Nat} (A : AT P t m)
    (cur vs : Array Value) (e : TypeId) (hx : a.eval x = .pointer (some ⟨w.heap.size, 0, none⟩)) (hy : a.eval y = .agg vs) (hm : vs.size = m) (hcur : cur.size = m) (h1 : ∀ u ∈ vs.toList, u.oneCell' = true)
    (h : wpList P ops Q rest (a.put o.dst undef) (w.alloc (.cells vs e))) : wpList P ops Q (o :: rest) a (w.alloc (.cells cur e)) := by
  refine wpList_plain hgd fun K hK => ?_
  have hst := run_storeCells_at P w.heap.size 0 e vs.toList 0 cur (w.alloc (.cells cur e)) (heap_alloc_new w _) (by simp; omega) h1
  simp only [Nat.add_zero, List.take_zero, List.nil_append, Array.length_toList] at hst
  rw [List.drop_eq_nil_of_le (by simp; omega), List.append_nil, Array.toArray_toList, setRow_alloc] at hst
  unfold Oper.wp execOp
  simp only [ho, hx, hy, Instr.storeAt, Instr.sureAddr, Sem.run_bind, Sem.run_pure, Result.andThen_ok, storeVar, A.sizeOf, Value.cells, hm]
  simp only [ne_eq, not_true_eq_false, if_false, hst]
  exact hK _ _ h

/-- A struct or an array is stored whole into a block that holds nothing else. -/
theorem wpList_store_whole {P : Program} {ops : Array Oper} {rest : List Oper} {o : Oper} {a : Act} {w : World} {Q : Exit → Act → World → Prop} (hgd : o.guard = none) (t : TypeId) (x y : Operand) (ho : o.op = .store t x y) {m : Nat} (A : AT P t m)
    {b : Nat} (cur vs : Array Value) (e : TypeId) (hg : w.heap[b]? = some (.cells cur e (0, 0))) (hx : a.eval x = .pointer (some ⟨b, 0, none⟩)) (hy : a.eval y = .agg vs) (hm : vs.size = m) (hcur : cur.size = m) (h1 : ∀ u ∈ vs.toList, u.oneCell' = true)
    (h : wpList P ops Q rest (a.put o.dst undef) (w.setRow b vs)) : wpList P ops Q (o :: rest) a w := by
  refine wpList_plain hgd fun K hK => ?_
  have hst := run_storeCells_at P b 0 e vs.toList 0 cur w hg (by simp; omega) h1
  simp only [Nat.add_zero, List.take_zero, List.nil_append, Array.length_toList] at hst
  rw [List.drop_eq_nil_of_le (by simp; omega), List.append_nil, Array.toArray_toList] at hst
  unfold Oper.wp execOp
  simp only [ho, hx, hy, Instr.storeAt, Instr.sureAddr, Sem.run_bind, Sem.run_pure, Result.andThen_ok, storeVar, A.sizeOf, Value.cells, hm]
  simp only [ne_eq, not_true_eq_false, if_false, hst]
  exact hK _ _ h

/-- Field i of the struct t lies at cell off and has one cell. -/
def fieldOk (P : Program) (t : TypeId) (i off : Nat) : Bool := match P.underlying t with
  | some (.struct fs) => match fs[i]? with
    | some f => f.offset == off && (match P.underlying f.type with
      | some (.struct _) | some (.array _ _) | none => false
      | some _ => true)
    | none => false
  | _ => false

theorem run_field {P : Program} {t : TypeId} {i off : Nat} (h : fieldOk P t i off = true) (cs : Array Value) (v : Value) (hv : cs[off]? = some v) (w : World) : (Instr.field t (.agg cs) i).run P w = .ok v w := by
  unfold fieldOk at h
  split at h
  · rename_i fs hu
    split at h
    · rename_i f hf
      simp only [Bool.and_eq_true, beq_iff_eq] at h
      obtain ⟨ho, ha⟩ := h
      subst ho
      have hag : (Go.isAgg f.type).run P w = .ok false w := by
        split at ha
        · simp at ha
        · simp at ha
        · simp at ha
        · rename_i d h1 h2 hd
          cases d <;> first | (simp [Go.isAgg, run_underlying hd]; done) | exact (h1 _ rfl).elim | exact (h2 _ _ rfl).elim
      simp [Instr.field, run_underlying hu, hf, part, hag, hv, asAgg]
    · simp at h
  · simp at h

/-- A field is read out of a struct. -/
theorem wpList_field {P : Program} {ops : Array Oper} {rest : List Oper} {o : Oper} {a : Act} {w : World} {Q : Exit → Act → World → Prop} (hgd : o.guard = none) (t : TypeId) (x : Operand) (i off : Nat) (ho : o.op = .field t x i) (hF : fieldOk P t i off = true)
    (cs : Array Value) (v : Value) (hx : a.eval x = .agg cs) (hv : cs[off]? = some v) (h : wpList P ops Q rest (a.put o.dst v) w) : wpList P ops Q (o :: rest) a w := by
  refine wpList_plain hgd fun K hK => ?_
  unfold Oper.wp execOp
  simp only [ho, hx, Sem.run_bind, Result.andThen_ok, run_field hF cs v hv, Sem.run_pure]
  exact hK _ _ h

/-- An element is read out of an array of structs. -/
theorem wpList_index_agg {P : Program} {ops : Array Oper} {rest : List Oper} {o : Oper} {a : Act} {w : World} {Q : Exit → Act → World → Prop} (hgd : o.guard = none) (t : TypeId) (x y : Operand) (ho : o.op = .index t x y) {len : Nat} {e : TypeId} (hu : P.underlying t = some (.array len e))
    {m : Nat} (A : AT P e m) (cs ds : Array Value) (i : Nat) (hx : a.eval x = .agg cs) (hy : a.eval y = .int .i64 (i : Nat)) (hi : i < len) (hd : cs.extract (i * m) (i * m + m) = ds)
    (h : wpList P ops Q rest (a.put o.dst (.agg ds)) w) : wpList P ops Q (o :: rest) a w := by
  refine wpList_plain hgd fun K hK => ?_
  unfold Oper.wp execOp
  have h1 : (Instr.index t (.agg cs) (.int .i64 (i : Nat))).run P w = .ok (.agg ds) w := by
    simp [Instr.index, asIntOf, run_underlying hu, part, A.isAgg, A.sizeOf, hi, hd]
  simp only [ho, hx, hy, Sem.run_bind, Result.andThen_ok, h1, Sem.run_pure]
  exact hK _ _ h

/-! ### Bytes as a string -/

def strB (xs : List Nat) : ByteArray := ⟨(xs.map UInt8.ofNat).toArray⟩

theorem conv_str {P : Program} {w : World} {a : Option Addr} {n cap : Nat} {xs : List Nat} (h : Rd .u8 w a n cap xs) {src e dst : TypeId} (hs : P.underlying src = some (.slice e)) (he : P.underlying e = some (.int .u8)) (hd : P.underlying dst = some .string) :
    (convert src dst (.slice a n cap)).run P w = .ok (.string (strB xs)) w := by
  have hl := h.len
  by_cases hp : 0 < n
  · obtain ⟨b, off, rfl, hc⟩ := h.addr hp
    have := run_convert_bytes_arg (P := P) w src e hs he b off n cap (xs.map fun (x : Nat) => (x : Int)) (by simpa using hl) (fun i hi => by
      rw [hc i hi]
      simp [nth, show i < xs.length by omega]) dst hd
    rw [this]
    simp [strOfNums, strB]
  · have hn : n = 0 := by omega
    subst hn
    have : xs = [] := List.eq_nil_of_length_eq_zero hl
    subst this
    rw [run_convert_bytes_string w src dst e _ 0 cap hs he hd]
    cases a <;> simp [Conv.bytesToString, loadCells, strB]
    · rfl
    · rfl

theorem UInt8.ofNat_inj' {a b : Nat} (ha : a < 256) (hb : b < 256) (h : UInt8.ofNat a = UInt8.ofNat b) : a = b := by
  have := congrArg UInt8.toNat h
  simp at this
  omega

theorem strB_inj {xs ys : List Nat} (hx : ∀ x ∈ xs, x < 256) (hy : ∀ y ∈ ys, y < 256) (h : strB xs = strB ys) : xs = ys := by
  unfold strB at h
  have h' : xs.map UInt8.ofNat = ys.map UInt8.ofNat := by
    have := congrArg (fun b : ByteArray => b.data.toList) h
    simpa using this
  clear h
  induction xs generalizing ys with
  | nil => cases ys with
    | nil => rfl
    | cons y ys => simp at h'
  | cons x xs ih => cases ys with
    | nil => simp at h'
    | cons y ys =>
      simp at h'
      rw [UInt8.ofNat_inj' (hx x (by simp)) (hy y (by simp)) h'.1, ih (fun a ha => hx a (by simp [ha])) (fun a ha => hy a (by simp [ha])) h'.2]

theorem strB_toList_inj {xs ys : List Nat} (h : (strB xs).toList = (strB ys).toList) : strB xs = strB ys := by
  rw [ByteArray.toList_eq, ByteArray.toList_eq] at h
  simp [strB] at h ⊢
  exact h

theorem strB_toList (xs : List Nat) : (strB xs).toList = xs.map UInt8.ofNat := by
  rw [ByteArray.toList_eq]
  simp [strB]

end Go.Suf
