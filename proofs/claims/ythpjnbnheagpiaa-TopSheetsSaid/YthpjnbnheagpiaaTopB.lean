/- Ballots, batches, rows of a profile; append and Clone of them. Conditions: at most 2^36 elements. Printed by gen_topb.py. -/
import Derived.Test.YthpjnbnheagpiaaSheC
import Derived.Laws.AppendOwnNone
namespace Go.Suf
open Go.RowKit
set_option linter.unusedVariables false
set_option linter.unusedSimpArgs false
/-- A slice type over an element type of two cells. -/
structure ET2 (P : Program) (t e : TypeId) (bs : Nat) : Prop where
  ht : P.underlying t = some (.slice e)
  info : ∃ i z, P.info? e = some i ∧ i.zero = some z ∧ z.cells.size = 2 ∧ i.size = 2 ∧ i.bytes = bs
  small : bs ≤ 64
/-- 'append(s, x...)' of elements of two cells: s the call's own, x whatever reads. -/
theorem wpList_append2 {α : Type} {F : α → Value → Value → Prop} {E : World → α → Value → Value → Prop} {P : Program} {ops : Array Oper} {rest : List Oper} {o : Oper} {a : Act} {w : World} {Q : Exit → Act → World → Prop} (hgd : o.guard = none) (s x : Operand) (t : TypeId)
    (ho : o.op = .call { callee := .builtin .append, args := #[s, x], argTypes := #[t, t] }) {e : TypeId} {bs : Nat} (T : ET2 P t e bs)
    (base : Nat) {a1 : Option Addr} {n1 cap1 : Nat} {vs : List α} (hs : a.eval s = .slice a1 n1 cap1) (hown : Ow2 F e base w a1 n1 cap1 vs)
    {a2 : Option Addr} {n2 cap2 : Nat} {us : List α} (hx : a.eval x = .slice a2 n2 cap2) (hr : Rd2 E w a2 n2 cap2 us) (hEF : ∀ x u v, E w x u v → F x u v)
    (hm : n1 + n2 ≤ 1099511627776) (hbase : base ≤ w.heap.size)
    (h : ∀ a' cap' w', Ow2 F e base w' a' (n1 + n2) cap' (vs ++ us) → w.grownBy w' (Value.ownBlock (.slice a1 n1 cap1)) → Below base w w' →
      wpList P ops Q rest (a.put o.dst (.slice a' (n1 + n2) cap')) w') : wpList P ops Q (o :: rest) a w := by
  obtain ⟨i, z, hi, hz, hzs, h1, hby⟩ := T.info
  have hsm := T.small
  obtain ⟨cs, hc1, hc2, hc3⟩ := hown.own
  have below : ∀ {w'}, w.grownBy w' (Value.ownBlock (.slice a1 n1 cap1)) → Below base w w' := fun hg =>
    (Below.refl base w).grown hg hbase (fun k hk => (hc2.lt k hk).1)
  have hlen : (vs ++ us).length = n1 + n2 := by rw [List.length_append, hown.len, hr.len]
  cases a2 with
  | none =>
    have hc := hr.nil rfl
    subst hc
    have hn : n2 = 0 := Nat.le_zero.1 hr.le
    subst hn
    have hd : us = [] := List.eq_nil_of_length_eq_zero hr.len
    subst hd
    refine wpList_append_own_none hgd s x t ho base e i 2 T.ht hi _ n1 (flat2 cs) hs hc2 hx ?_
    have := h a1 cap1 w (by simpa using hown) ⟨rfl, rfl, rfl, Nat.le_refl _, fun _ _ _ => rfl⟩ (Below.refl _ _)
    simpa using this
  | some ad =>
    obtain ⟨ds, hd1, hd2⟩ : ∃ ds : List (Value × Value), ds.length = n2 ∧ ∀ (k : Nat) c, ds[k]? = some c → ∃ x b off, us[k]? = some x ∧ some ad = some (⟨b, off, none⟩ : Addr) ∧ w.cell? ⟨b, off + k * 2, none⟩ = some c.1 ∧ w.cell? ⟨b, off + k * 2 + 1, none⟩ = some c.2 ∧ E w x c.1 c.2 ∧ c.1.oneCell' = true ∧ c.2.oneCell' = true := by
      have hcell : ∀ k : Fin us.length, ∃ c : Value × Value, ∃ b off, some ad = some (⟨b, off, none⟩ : Addr) ∧ w.cell? ⟨b, off + k.1 * 2, none⟩ = some c.1 ∧ w.cell? ⟨b, off + k.1 * 2 + 1, none⟩ = some c.2 ∧ E w us[k.1] c.1 c.2 ∧ c.1.oneCell' = true ∧ c.2.oneCell' = true := fun k => by
        obtain ⟨b, off, u, v, e1, e2, e3, e4, e5, e6⟩ := hr.cell k.1 us[k.1] (List.getElem?_eq_getElem k.2)
        exact ⟨(u, v), b, off, e1, e2, e3, e4, e5, e6⟩
      obtain ⟨f, hf⟩ : ∃ f : Fin us.length → Value × Value, ∀ k : Fin us.length, ∃ b off, some ad = some (⟨b, off, none⟩ : Addr) ∧ w.cell? ⟨b, off + k.1 * 2, none⟩ = some (f k).1 ∧ w.cell? ⟨b, off + k.1 * 2 + 1, none⟩ = some (f k).2 ∧ E w us[k.1] (f k).1 (f k).2 ∧ (f k).1.oneCell' = true ∧ (f k).2.oneCell' = true := ⟨fun k => Classical.choose (hcell k), fun k => Classical.choose_spec (hcell k)⟩
      refine ⟨List.ofFn f, by rw [List.length_ofFn, hr.len], fun k c hk => ?_⟩
      have hk2 := (List.getElem?_eq_some_iff.1 hk).1
      rw [List.length_ofFn] at hk2
      rw [List.getElem?_ofFn, dif_pos hk2] at hk
      simp only [Option.some.injEq] at hk
      subst hk
      obtain ⟨b, off, e1, e2, e3, e4, e5, e6⟩ := hf ⟨k, hk2⟩
      exact ⟨us[k], b, off, List.getElem?_eq_getElem hk2, e1, e2, e3, e4, e5, e6⟩
    refine wpList_append_own w hgd s x t ho base e i z 2 bs T.ht hi hz h1 hby hzs (by decide) _ n1 (flat2 cs) hs hc2 ad n2 cap2 (flat2 ds) hx (by rw [flat2_length, hd1]) (fun j u hu => ?_) (fun u hu => ?_) (by unfold maxLen; omega) ?_ hbase ?_
    · obtain ⟨c, hj1, hj2⟩ := flat2_some hu
      obtain ⟨x, b, off, _, e1, e2, e3, _⟩ := hd2 _ _ hj1
      simp only [Option.some.injEq] at e1
      subst e1
      have ea : (⟨b, off, none⟩ : Addr).add j = ⟨b, off + j, none⟩ := by unfold Addr.add; split <;> simp_all
      rw [ea]
      rcases hj2 with ⟨h3, rfl⟩ | ⟨h3, rfl⟩
      · rw [show off + j = off + j / 2 * 2 by omega]; exact e2
      · rw [show off + j = off + j / 2 * 2 + 1 by omega]; exact e3
    · obtain ⟨j, hj, rfl⟩ := List.getElem_of_mem hu
      obtain ⟨c, hj1, hj2⟩ := flat2_some (List.getElem?_eq_getElem hj)
      obtain ⟨_, _, _, _, _, _, _, _, e5, e6⟩ := hd2 _ _ hj1
      rcases hj2 with ⟨_, h4⟩ | ⟨_, h4⟩ <;> rw [h4]
      · exact e5
      · exact e6
    · have : (n1 + n2) * bs ≤ 1099511627776 * 64 := Nat.mul_le_mul hm hsm
      omega
    · intro v' w' hown' hg _
      rw [← flat2_append] at hown'
      have hcells : ∀ (i : Nat) x c, (vs ++ us)[i]? = some x → (cs ++ ds)[i]? = some c → F x c.1 c.2 ∧ c.1.oneCell' = true ∧ c.2.oneCell' = true := by
        intro i x c hx hc
        have hvl := hown.len
        by_cases hi : i < n1
        · rw [List.getElem?_append_left (by omega)] at hx hc
          exact hc3 i x c hx hc
        · rw [List.getElem?_append_right (by omega)] at hx hc
          rw [hvl] at hx
          rw [hc1] at hc
          obtain ⟨x', b, off, e0, _, _, _, e4, e5⟩ := hd2 _ _ hc
          rw [e0] at hx
          simp only [Option.some.injEq] at hx
          subst hx
          exact ⟨hEF _ _ _ e4, e5⟩
      have hcl : (cs ++ ds).length = n1 + n2 := by rw [List.length_append, hc1, hd1]
      rcases hown'.2 with ⟨hv, hn⟩ | ⟨g, cap', cur, hv, _⟩
      · subst hv
        have hn0 : n1 + n2 = 0 := hn
        have h' := h none 0 w' ⟨hlen, cs ++ ds, hcl, by rw [hn0] at hown' ⊢; exact hown', hcells⟩ hg (below hg)
        rw [hn0] at h'
        exact h'
      · subst hv
        exact h _ _ w' ⟨hlen, cs ++ ds, hcl, hown', hcells⟩ hg (below hg)

/-- A row read in a later world, its elements' relation held in the earlier one. -/
theorem Rd2.fix {α : Type} {E : World → α → Value → Value → Prop} {w w' : World} {a : Option Addr} {n cap : Nat} {l : List α} (h : Rd2 E w a n cap l) (hb : Below w.heap.size w w') : Rd2 (fun _ => E w) w' a n cap l :=
  ⟨h.len, h.le, h.max, h.nil, fun i x hx => by
    obtain ⟨b, off, u, v, e, h1, h2, h3, h4⟩ := h.cell i x hx
    exact ⟨b, off, u, v, e, cell_below hb h1, cell_below hb h2, h3, h4⟩⟩
/-- A ballot. -/
structure BQ where
  kd : Nat
  ms : List Int
  deriving DecidableEq
def balE (w : World) (x : BQ) (u v : Value) : Prop := u = .int .u8 ((x.kd : Nat) : Int) ∧ x.kd < 256 ∧ ∃ a n c, v = .slice a n c ∧ RdI w a n c x.ms
theorem balE_lasts : Lasts balE := fun {w w' x u v} h hb => by
  obtain ⟨h1, h2, a, n, c, h3, h4⟩ := h
  exact ⟨h1, h2, a, n, c, h3, h4.below hb⟩
abbrev RdQ := Rd2 balE
/-- A batch. -/
structure CQ where
  nm : ByteArray
  bs : List BQ
def batE (w : World) (x : CQ) (u v : Value) : Prop := u = .string x.nm ∧ ∃ a n c, v = .slice a n c ∧ RdQ w a n c x.bs
theorem batE_lasts : Lasts batE := fun {w w' x u v} h hb => by
  obtain ⟨h1, a, n, c, h3, h4⟩ := h
  exact ⟨h1, a, n, c, h3, h4.below balE_lasts hb⟩
abbrev RdC := Rd2 batE
/-- A row of a profile. -/
structure RwQ where
  ms : List Int
  many : Int
  deriving DecidableEq
def rowE (w : World) (x : RwQ) (u v : Value) : Prop := v = .int .i64 x.many ∧ okI x.many ∧ ∃ a n c, u = .slice a n c ∧ RdI w a n c x.ms
theorem rowE_lasts : Lasts rowE := fun {w w' x u v} h hb => by
  obtain ⟨h1, h2, a, n, c, h3, h4⟩ := h
  exact ⟨h1, h2, a, n, c, h3, h4.below hb⟩
abbrev RdR := Rd2 rowE
end Go.Suf
namespace Go.Proofs.Ythpjnbnheagpiaa
open Go.RowKit Go.Suf
set_option linter.unusedVariables false
set_option linter.unusedSimpArgs false
theorem etQ : ET2 Try.prog 27 37 32 := ⟨Try.underlying27, by
  have h : (Try.prog.info? 37).map (fun i => (i.zero, i.size, i.bytes)) = some (some (.agg #[.int .u8 0, .slice none 0 0]), 2, 32) := by kernel_rfl
  cases hq : Try.prog.info? 37 with
  | none => simp [hq] at h
  | some i =>
    simp [hq] at h
    exact ⟨i, _, rfl, h.1, rfl, h.2.1, h.2.2⟩, by decide⟩
theorem etC : ET2 Try.prog 33 79 40 := ⟨Try.underlying33, by
  have h : (Try.prog.info? 79).map (fun i => (i.zero, i.size, i.bytes)) = some (some (.agg #[.string ⟨#[]⟩, .slice none 0 0]), 2, 40) := by kernel_rfl
  cases hq : Try.prog.info? 79 with
  | none => simp [hq] at h
  | some i =>
    simp [hq] at h
    exact ⟨i, _, rfl, h.1, rfl, h.2.1, h.2.2⟩, by decide⟩
theorem etR : ET2 Try.prog 49 92 32 := ⟨Try.underlying49, by
  have h : (Try.prog.info? 92).map (fun i => (i.zero, i.size, i.bytes)) = some (some (.agg #[.slice none 0 0, .int .i64 0]), 2, 32) := by kernel_rfl
  cases hq : Try.prog.info? 92 with
  | none => simp [hq] at h
  | some i =>
    simp [hq] at h
    exact ⟨i, _, rfl, h.1, rfl, h.2.1, h.2.2⟩, by decide⟩
/-- A new row, its elements as they read in the world w0. -/
def Ret2 {α : Type} (E : World → α → Value → Value → Prop) (e : TypeId) (w : World) (n : Nat) (l : List α) : Ending → World → Prop := fun en w' =>
  ∃ a cap, en = .returned (.slice a n cap) ∧ Ow2 (E w) e w.heap.size w' a n cap l ∧ Below w.heap.size w w'
set_option maxHeartbeats 1000000 in
theorem cloneQ_any {α : Type} {E : World → α → Value → Value → Prop} (w : World) {a : Option Addr} {n cap : Nat} {l : List α} (h : Rd2 E w a n cap l) (hn : n ≤ 1099511627776) :
    Calls Try.prog 56 #[.slice a n cap] w (Ret2 E 37 w n l) := by
  have heq := fun (w : World) => Lib.run_eql_slice_nil (P := Try.prog) w
  cases a with
  | none =>
    have hc := h.nil rfl
    subst hc
    have hn : n = 0 := by have := h.le; omega
    subst hn
    have hx : l = [] := List.eq_nil_of_length_eq_zero h.len
    subst hx
    go_enter Try.func56, Try.ntmps56
    go_wp2
    go_ret
    exact ⟨none, 0, rfl, Ow2.nil _ _ _ _, Below.refl _ _⟩
  | some ad =>
    have hb0 := below_al w (.cells #[] 37)
    have hz := hb0.size
    have hF := Lib.hid h
    go_enter Try.func56, Try.ntmps56
    go_wp2_with (at_builtin; refine wpList_append2 rfl _ _ 27 rfl etQ w.heap.size rfl (Ow2.made (E w) 37 w) rfl (h.fix hb0) (fun _ _ _ q => q) (by omega) hz ?_; intro a' c' w1 hown hg hb1; refine Hid.out ?_)
    simp only [Nat.zero_add, List.nil_append] at hown ⊢
    have HO := Lib.hid hown
    have HB := Lib.hid (hb0.trans hb1)
    clear hown hg hb1 hb0
    refine Lib.hid ?_
    go_wp2_with fail
    go_ret
    exact ⟨a', c', rfl, HO.out, HB.out⟩

set_option maxHeartbeats 1000000 in
theorem cloneC_any {α : Type} {E : World → α → Value → Value → Prop} (w : World) {a : Option Addr} {n cap : Nat} {l : List α} (h : Rd2 E w a n cap l) (hn : n ≤ 1099511627776) :
    Calls Try.prog 55 #[.slice a n cap] w (Ret2 E 79 w n l) := by
  have heq := fun (w : World) => Lib.run_eql_slice_nil (P := Try.prog) w
  cases a with
  | none =>
    have hc := h.nil rfl
    subst hc
    have hn : n = 0 := by have := h.le; omega
    subst hn
    have hx : l = [] := List.eq_nil_of_length_eq_zero h.len
    subst hx
    go_enter Try.func55, Try.ntmps55
    go_wp2
    go_ret
    exact ⟨none, 0, rfl, Ow2.nil _ _ _ _, Below.refl _ _⟩
  | some ad =>
    have hb0 := below_al w (.cells #[] 79)
    have hz := hb0.size
    have hF := Lib.hid h
    go_enter Try.func55, Try.ntmps55
    go_wp2_with (at_builtin; refine wpList_append2 rfl _ _ 33 rfl etC w.heap.size rfl (Ow2.made (E w) 79 w) rfl (h.fix hb0) (fun _ _ _ q => q) (by omega) hz ?_; intro a' c' w1 hown hg hb1; refine Hid.out ?_)
    simp only [Nat.zero_add, List.nil_append] at hown ⊢
    have HO := Lib.hid hown
    have HB := Lib.hid (hb0.trans hb1)
    clear hown hg hb1 hb0
    refine Lib.hid ?_
    go_wp2_with fail
    go_ret
    exact ⟨a', c', rfl, HO.out, HB.out⟩

set_option maxHeartbeats 1000000 in
theorem cloneR_any {α : Type} {E : World → α → Value → Value → Prop} (w : World) {a : Option Addr} {n cap : Nat} {l : List α} (h : Rd2 E w a n cap l) (hn : n ≤ 1099511627776) :
    Calls Try.prog 76 #[.slice a n cap] w (Ret2 E 92 w n l) := by
  have heq := fun (w : World) => Lib.run_eql_slice_nil (P := Try.prog) w
  cases a with
  | none =>
    have hc := h.nil rfl
    subst hc
    have hn : n = 0 := by have := h.le; omega
    subst hn
    have hx : l = [] := List.eq_nil_of_length_eq_zero h.len
    subst hx
    go_enter Try.func76, Try.ntmps76
    go_wp2
    go_ret
    exact ⟨none, 0, rfl, Ow2.nil _ _ _ _, Below.refl _ _⟩
  | some ad =>
    have hb0 := below_al w (.cells #[] 92)
    have hz := hb0.size
    have hF := Lib.hid h
    go_enter Try.func76, Try.ntmps76
    go_wp2_with (at_builtin; refine wpList_append2 rfl _ _ 49 rfl etR w.heap.size rfl (Ow2.made (E w) 92 w) rfl (h.fix hb0) (fun _ _ _ q => q) (by omega) hz ?_; intro a' c' w1 hown hg hb1; refine Hid.out ?_)
    simp only [Nat.zero_add, List.nil_append] at hown ⊢
    have HO := Lib.hid hown
    have HB := Lib.hid (hb0.trans hb1)
    clear hown hg hb1 hb0
    refine Lib.hid ?_
    go_wp2_with fail
    go_ret
    exact ⟨a', c', rfl, HO.out, HB.out⟩

end Go.Proofs.Ythpjnbnheagpiaa
