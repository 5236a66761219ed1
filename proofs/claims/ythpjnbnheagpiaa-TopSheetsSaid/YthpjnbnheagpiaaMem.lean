/- Blocks of numbers that a call made itself and writes: predicates and laws over any program. No condition. -/
import Derived.Test.YthpjnbnheagpiaaBase
import Derived.Laws.CopyRow
import Derived.Laws.IdiomCopy
namespace Go.Suf
open Go.RowKit
set_option linter.unusedVariables false
set_option linter.unusedSimpArgs false

/-- A block that holds the numbers xs and nothing else. -/
structure Blk (k : IntKind) (e : TypeId) (w : World) (g : Nat) (xs : List Nat) : Prop where
  blk : w.heap[g]? = some (.cells (nums k xs).toArray e (0, 0))
  bd : ∀ x ∈ xs, x < lim k

section
variable {k : IntKind} {e : TypeId} {w w' : World} {g : Nat} {xs : List Nat}

theorem Blk.lt (h : Blk k e w g xs) : g < w.heap.size := (Array.getElem?_eq_some_iff.1 h.blk).1

theorem Blk.cell (h : Blk k e w g xs) (i : Nat) (hi : i < xs.length) : w.cell? ⟨g, i, none⟩ = some (.int k (nth xs i : Nat)) := by
  rw [cell_of_row w g i _ e (0, 0) h.blk]
  simpa using nums_at k xs i hi

theorem Blk.nth_lt (h : Blk k e w g xs) (i : Nat) (hi : i < xs.length) : nth xs i < lim k := by
  rw [nth_eq hi]; exact h.bd _ (List.getElem_mem _)

theorem Blk.free (h : Blk k e w g xs) (i : Nat) : w.frozen? ⟨g, i, none⟩ = false := frozen_of_row w g i _ e h.blk

theorem Blk.set (h : Blk k e w g xs) (i v : Nat) (hv : v < lim k) : Blk k e (w.setCell ⟨g, i, none⟩ (.int k (v : Nat))) g (xs.set i v) := by
  refine ⟨?_, fun x hx => ?_⟩
  · rw [heap_setCell_same w g i _ e _ h.blk]
    simp [nums, List.map_set]
  · rcases List.mem_or_eq_of_mem_set hx with h' | h'
    · exact h.bd x h'
    · omega

theorem Blk.rd (h : Blk k e w g xs) (n : Nat) (hn : xs.length = n) (hm : n ≤ maxLen) : Rd k w (some ⟨g, 0, none⟩) n n xs := by
  refine ⟨hn, ⟨by simp; omega, hm, fun e => by simp at e, fun i c hc => ⟨g, 0, rfl, ?_⟩, nums_one k xs⟩, h.bd⟩
  rw [Nat.zero_add, cell_of_row w g i _ e (0, 0) h.blk]
  simpa using hc

theorem Blk.below (h : Blk k e w g xs) (hb : Below w.heap.size w w') : Blk k e w' g xs := ⟨(hb.block g h.lt).trans h.blk, h.bd⟩

theorem Blk.grown (h : Blk k e w g xs) {row : Option Nat} (hg : w.grownBy w' row) (hr : row ≠ some g) : Blk k e w' g xs := by
  refine ⟨(hg.block g h.lt (fun e => hr e.symm)).trans h.blk, h.bd⟩

theorem Blk.other (h : Blk k e w g xs) {p : Addr} (hp : g ≠ p.block) (v : Value) : Blk k e (w.setCell p v) g xs :=
  ⟨(Below.heap_setCell w p v g hp).trans h.blk, h.bd⟩

theorem Blk.drewN (h : Blk k e w g xs) (q : Nat) : Blk k e (w.drewN q) g xs := ⟨h.blk, h.bd⟩

theorem Blk.alloc (h : Blk k e w g xs) (o : Obj) : Blk k e (w.alloc o) g xs := h.below ((Below.refl _ _).alloc (Nat.le_refl _) _)
end

/-- What 'make' lays. -/
theorem Blk.made (k : IntKind) (e : TypeId) (w : World) (n : Nat) : Blk k e (w.alloc (.cells (zeros k n) e)) w.heap.size (zs n) := by
  refine ⟨?_, fun x hx => ?_⟩
  · rw [heap_alloc_new]
    rfl
  · have : x = 0 := List.eq_of_mem_replicate hx
    subst this
    cases k <;> decide

/-- What a literal lays. -/
theorem Blk.lit (k : IntKind) (e : TypeId) (w : World) (xs : List Nat) (hb : ∀ x ∈ xs, x < lim k) : Blk k e (w.alloc (.cells (nums k xs).toArray e)) w.heap.size xs :=
  ⟨heap_alloc_new w _, hb⟩

/-- Writes to one block alone. -/
theorem grownBy_set (w : World) (p : Addr) (v : Value) : w.grownBy (w.setCell p v) (some p.block) :=
  ⟨rfl, rfl, rfl, by simp [World.setCell], fun k _ hk => Below.heap_setCell _ _ _ _ (fun e => hk (by rw [e]))⟩

theorem grownBy_trans {a b c : World} {row : Option Nat} (h : a.grownBy b row) (k : b.grownBy c row) : a.grownBy c row :=
  ⟨k.os.trans h.os, k.tape.trans h.tape, k.output.trans h.output, Nat.le_trans h.size k.size, fun i hi hr => (k.block i (Nat.lt_of_lt_of_le hi h.size) hr).trans (h.block i hi hr)⟩

theorem grownBy_below {w w' : World} {g : Nat} {row : Option Nat} (h : Below w.heap.size w w') : w.grownBy w' row :=
  ⟨h.os, h.tape, h.output, h.size, fun i hi _ => h.block i hi⟩

/-- A value that reads stays as it reads behind writes to another block. -/
theorem Rd.other {k : IntKind} {w w' : World} {a : Option Addr} {n cap : Nat} {xs : List Nat} (h : Rd k w a n cap xs) {g : Nat} (hg : w.grownBy w' (some g)) (ha : 0 < n → ∀ p, a = some p → p.block ≠ g) : Rd k w' a n cap xs := by
  refine ⟨h.len, ⟨h.sl.le, h.sl.max, h.sl.nil, fun i c hc => ?_, h.sl.one⟩, h.bd⟩
  obtain ⟨b, off, e, hw⟩ := h.sl.cell i c hc
  refine ⟨b, off, e, ?_⟩
  have hn : 0 < n := by
    have := h.len
    rcases Nat.eq_zero_or_pos n with h0 | h0
    · rw [List.eq_nil_of_length_eq_zero (by omega : xs.length = 0)] at hc
      simp [nums] at hc
    · exact h0
  have hne := ha hn _ e
  have hlt : b < w.heap.size := World.block_lt_of_cell? w ⟨b, off + i, none⟩ hw
  exact (World.cell?_of_block (w := w) (a := ⟨b, off + i, none⟩) (hg.block b hlt (by simpa using hne))).trans hw

section
variable {P : Program} {ops : Array Oper} {rest : List Oper} {o : Oper} {a : Act} {w : World} {Q : Exit → Act → World → Prop} {g off n cap : Nat} {t e : TypeId} {z : Value} {bs : Nat}

theorem sliced_at (l h m : Nat) (hl : l < m) : sliced (some ⟨g, off, none⟩) l h m 1 = .slice (some ⟨g, off + l, none⟩) (h - l) (m - l) := by
  unfold sliced
  rw [if_neg (by omega)]
  simp only [Option.map_some]
  congr 2
  unfold Addr.add
  split <;> simp_all

/-- 'x[i:]', its address told. -/
theorem wpList_fromA (hgd : o.guard = none) (x lo : Operand) (t : TypeId) (ho : o.op = .slice t x (some lo) none none) (T : ET P t e z bs) (hx : a.eval x = .slice (some ⟨g, off, none⟩) n cap)
    {kl : IntKind} {I : Int} (hlo : a.eval lo = .int kl I) (i m c : Nat) (hI : I = (i : Int)) (hi : i ≤ n) (hn : n ≤ cap) (hc : i < cap) (hm : n - i = m) (hcm : cap - i = c)
    (K : wpList P ops Q rest (a.put o.dst (.slice (some ⟨g, off + i, none⟩) m c)) w) : wpList P ops Q (o :: rest) a w := by
  subst hI
  subst hm
  subst hcm
  have ht' : P.underlying t = some (.slice (P.elem t)) := by rw [elem_of T]; exact T.ht
  have hrun : (Instr.sliceAt t (.slice (some ⟨g, off, none⟩) n cap) (some (.int kl i)) none none).run P w = .ok (.slice (some ⟨g, off + i, none⟩) (n - i) (cap - i)) w := by
    rw [run_sliceAt_slice w t _ _ _ _ ht', run_slice_l w t _ n cap ht' kl i (by omega) (by omega), elem_of T, run_sizeOf1 T]
    simp only [Result.andThen_ok, Int.toNat_natCast]
    rw [show sliced (some ⟨g, off, none⟩) i n cap 1 = .slice (some ⟨g, off + i, none⟩) (n - i) (cap - i) from sliced_at i n cap hc]
  refine wpList_plain hgd fun K' hK => ?_
  unfold Oper.wp
  simp [execOp, ho, hx, hlo, hrun, Result.andThen]
  exact hK _ _ K

/-- 'x[i:j:m]', its address told. -/
theorem wpList_part3A (hgd : o.guard = none) (x lo hi mx : Operand) (t : TypeId) (ho : o.op = .slice t x (some lo) (some hi) (some mx)) (T : ET P t e z bs) (hx : a.eval x = .slice (some ⟨g, off, none⟩) n cap)
    {kl kh km : IntKind} {I J M : Int} (hlo : a.eval lo = .int kl I) (hhi : a.eval hi = .int kh J) (hmx : a.eval mx = .int km M) (i j m m' c' : Nat) (hI : I = (i : Int)) (hJ : J = (j : Int)) (hM : M = (m : Int)) (hij : i ≤ j) (hjm : j ≤ m) (hm : m ≤ cap) (him : i < m) (h1 : j - i = m') (h2 : m - i = c')
    (K : wpList P ops Q rest (a.put o.dst (.slice (some ⟨g, off + i, none⟩) m' c')) w) : wpList P ops Q (o :: rest) a w := by
  subst hI
  subst hJ
  subst hM
  subst h1
  subst h2
  have ht' : P.underlying t = some (.slice (P.elem t)) := by rw [elem_of T]; exact T.ht
  have hrun : (Instr.sliceAt t (.slice (some ⟨g, off, none⟩) n cap) (some (.int kl i)) (some (.int kh j)) (some (.int km m))).run P w = .ok (.slice (some ⟨g, off + i, none⟩) (j - i) (m - i)) w := by
    rw [run_sliceAt_slice w t _ _ _ _ ht', run_slice_lhm w t _ n cap ht' kl kh km i j m (by omega) (by omega) (by omega) (by omega), elem_of T, run_sizeOf1 T]
    simp only [Result.andThen_ok, Int.toNat_natCast]
    rw [sliced_at i j m him]
  refine wpList_plain hgd fun K' hK => ?_
  unfold Oper.wp
  simp [execOp, ho, hx, hlo, hhi, hmx, hrun, Result.andThen]
  exact hK _ _ K
end

section
variable {P : Program} {ops : Array Oper} {rest : List Oper} {o : Oper} {a : Act} {w : World} {Q : Exit → Act → World → Prop} {n cap : Nat} {t e : TypeId} {z : Value} {bs : Nat}

/-- 'x[:j:m]' of a slice that has an address, or at j = m = 0: the address stays. -/
theorem wpList_upto3A (hgd : o.guard = none) (x hi mx : Operand) (t : TypeId) (ho : o.op = .slice t x none (some hi) (some mx)) (T : ET P t e z bs) {a1 : Option Addr} (hx : a.eval x = .slice a1 n cap)
    {kh km : IntKind} {J M : Int} (hhi : a.eval hi = .int kh J) (hmx : a.eval mx = .int km M) (j m : Nat) (hJ : J = (j : Int)) (hM : M = (m : Int)) (hjm : j ≤ m) (hm : m ≤ cap) (ha : m = 0 ∨ ∃ g off, a1 = some ⟨g, off, none⟩)
    (K : wpList P ops Q rest (a.put o.dst (.slice a1 j m)) w) : wpList P ops Q (o :: rest) a w := by
  subst hJ
  subst hM
  have ht' : P.underlying t = some (.slice (P.elem t)) := by rw [elem_of T]; exact T.ht
  have hs : sliced a1 0 j m 1 = .slice a1 j m := by
    rcases ha with h0 | ⟨g, off, rfl⟩
    · subst h0
      simp [sliced]
    · by_cases h0 : m = 0
      · subst h0
        simp [sliced]
      · have := sliced_at (g := g) (off := off) 0 j m (by omega)
        simpa using this
  have hrun : (Instr.sliceAt t (.slice a1 n cap) none (some (.int kh j)) (some (.int km m))).run P w = .ok (.slice a1 j m) w := by
    rw [run_sliceAt_slice w t _ _ _ _ ht', run_slice_hm w t a1 n cap ht' kh km j m (by omega) (by omega) (by omega), elem_of T, run_sizeOf1 T]
    simp only [Result.andThen_ok, Int.toNat_natCast]
    rw [hs]
  refine wpList_plain hgd fun K' hK => ?_
  unfold Oper.wp
  simp [execOp, ho, hx, hhi, hmx, hrun, Result.andThen]
  exact hK _ _ K

/-- 'x[:j]' of a slice that has an address: the address stays. -/
theorem wpList_uptoA (hgd : o.guard = none) (x hi : Operand) (t : TypeId) (ho : o.op = .slice t x none (some hi) none) (T : ET P t e z bs) {a1 : Option Addr} (hx : a.eval x = .slice a1 n cap)
    {kh : IntKind} {J : Int} (hhi : a.eval hi = .int kh J) (j : Nat) (hJ : J = (j : Int)) (hj : j ≤ cap) (ha : cap = 0 ∨ ∃ g off, a1 = some ⟨g, off, none⟩)
    (K : wpList P ops Q rest (a.put o.dst (.slice a1 j cap)) w) : wpList P ops Q (o :: rest) a w := by
  subst hJ
  have ht' : P.underlying t = some (.slice (P.elem t)) := by rw [elem_of T]; exact T.ht
  have hs : sliced a1 0 j cap 1 = .slice a1 j cap := by
    rcases ha with h0 | ⟨g, off, rfl⟩
    · subst h0
      simp [sliced]
    · by_cases h0 : cap = 0
      · subst h0
        simp [sliced]
      · have := sliced_at (g := g) (off := off) 0 j cap (by omega)
        simpa using this
  have hrun : (Instr.sliceAt t (.slice a1 n cap) none (some (.int kh j)) none).run P w = .ok (.slice a1 j cap) w := by
    rw [run_sliceAt_slice w t _ _ _ _ ht', run_slice_h w t a1 n cap ht' kh j (by omega) (by omega), elem_of T, run_sizeOf1 T]
    simp only [Result.andThen_ok, Int.toNat_natCast]
    rw [hs]
  refine wpList_plain hgd fun K' hK => ?_
  unfold Oper.wp
  simp [execOp, ho, hx, hhi, hrun, Result.andThen]
  exact hK _ _ K

/-- 'copy(d, s)' into a whole block from its head. -/
theorem wpList_copyB (hgd : o.guard = none) (d s : Operand) (dT sT : TypeId) (ho : o.op = .call { callee := .builtin .copy, args := #[d, s], argTypes := #[dT, sT] }) (T : ET P dT e z bs)
    {k : IntKind} {g m c : Nat} {zs : List Nat} (hB : Blk k e w g zs) (hm : zs.length = m) {a1 : Option Addr} {xs : List Nat} (h : Rd k w a1 n cap xs) (hnm : n ≤ m)
    (hd : a.eval d = .slice (some ⟨g, 0, none⟩) m c) (hs : a.eval s = .slice a1 n cap)
    (K : ∀ w', Blk k e w' g (xs ++ zs.drop n) → w.grownBy w' (some g) → wpList P ops Q rest (a.put o.dst (goInt n)) w') : wpList P ops Q (o :: rest) a w := by
  obtain ⟨i, hi, _, h1, _⟩ := T.info
  have hsz : (P.info? e).map (·.size) = some 1 := by rw [hi]; simp [h1]
  have hl := h.len
  by_cases h0 : n = 0
  · subst h0
    have hx : xs = [] := List.eq_nil_of_length_eq_zero hl
    subst hx
    have hrun := run_copy_none (P := P) w dT sT o.type e (some ⟨g, 0, none⟩) a1 m c 0 cap T.ht hsz (by simp)
    refine wpList_plain hgd fun K' hK => ?_
    unfold Oper.wp
    simp [execOp, ho, resolve, invoke, builtin, hd, hs, hrun, Result.andThen]
    exact hK _ _ (K w (by simpa using hB) ⟨rfl, rfl, rfl, Nat.le_refl _, fun _ _ _ => rfl⟩)
  · obtain ⟨b, off, rfl, hc⟩ := h.addr (by omega)
    have hmin : Nat.min n m = n := Nat.min_eq_left hnm
    have hrun := run_copy_row (P := P) w dT sT o.type e g 0 m c ⟨b, off, none⟩ n cap (nums k zs).toArray e (nums k xs) T.ht hsz hB.blk (by rw [hmin]; simpa using hl) (h.sl.adds rfl) (by simp; omega) (nums_one k xs)
    refine wpList_plain hgd fun K' hK => ?_
    unfold Oper.wp
    simp [execOp, ho, resolve, invoke, builtin, hd, hs, hrun, Result.andThen, hl]
    refine hK _ _ (K _ ?_ ⟨rfl, rfl, rfl, by simp [World.setRow], fun k' _ hk => setRow_other w g k' _ (fun e => hk (by rw [e]))⟩)
    refine ⟨?_, fun x hx => ?_⟩
    · rw [setRow_heap w g _ _ e _ hB.blk]
      simp [nums, hl]
    · rw [List.mem_append] at hx
      rcases hx with hx | hx
      · exact h.bd x hx
      · exact hB.bd x (List.mem_of_mem_drop hx)
end

/-- Where a slice that reads lies. -/
theorem Rd.block_lt {k : IntKind} {w : World} {a : Option Addr} {n cap : Nat} {xs : List Nat} (h : Rd k w a n cap xs) (hn : 0 < n) : ∀ p, a = some p → p.block < w.heap.size := by
  obtain ⟨b, off, rfl, hc⟩ := h.addr hn
  intro p hp
  simp at hp
  subst hp
  exact World.block_lt_of_cell? w ⟨b, off + 0, none⟩ (hc 0 hn)


/-- The block at a holds elements of type e. -/
def Ty (w : World) (a : Option Addr) (e : TypeId) : Prop := ∀ p, a = some p → ∃ cs, w.heap[p.block]? = some (.cells cs e (0, 0))

theorem Ty.nil (w : World) (e : TypeId) : Ty w none e := fun p h => by cases h

theorem Ty.below {w w' : World} {a : Option Addr} {e : TypeId} (h : Ty w a e) (hb : Below w.heap.size w w') : Ty w' a e := fun p hp => by
  obtain ⟨cs, hc⟩ := h p hp
  exact ⟨cs, (hb.block _ (Array.getElem?_eq_some_iff.1 hc).1).trans hc⟩

theorem Blk.ty {k : IntKind} {e : TypeId} {w : World} {g off : Nat} {xs : List Nat} (h : Blk k e w g xs) : Ty w (some ⟨g, off, none⟩) e := fun p hp => by
  simp at hp
  subst hp
  exact ⟨_, h.blk⟩

/-- What reads, reads on behind writes to another block. -/
theorem Rd.grown {k : IntKind} {w w' : World} {a : Option Addr} {n cap : Nat} {xs : List Nat} (h : Rd k w a n cap xs) {row : Option Nat} (hg : w.grownBy w' row) (ha : ∀ p, a = some p → row ≠ some p.block) : Rd k w' a n cap xs := by
  refine ⟨h.len, ⟨h.sl.le, h.sl.max, h.sl.nil, fun i c hc => ?_, h.sl.one⟩, h.bd⟩
  obtain ⟨b, off, e, hw⟩ := h.sl.cell i c hc
  refine ⟨b, off, e, ?_⟩
  have hne := ha _ e
  have hlt : b < w.heap.size := World.block_lt_of_cell? w ⟨b, off + i, none⟩ hw
  exact (World.cell?_of_block (w := w) (a := ⟨b, off + i, none⟩) (hg.block b hlt (fun e => hne e.symm))).trans hw

theorem ty_apart {w : World} {base : Nat} {a : Option Addr} {e e' : TypeId} {v : Value} {n : Nat} {vs : List Value} (ht : Ty w a e) (hv : w.ownsRow base e' 1 v n vs) (he : e ≠ e') : ∀ p, a = some p → v.ownBlock ≠ some p.block := by
  intro p hp hq
  obtain ⟨cs, hc⟩ := ht p hp
  rcases hv.2 with ⟨rfl, _⟩ | ⟨g, c, cur, rfl, _, hh, _⟩
  · simp [Value.ownBlock] at hq
  · simp [Value.ownBlock] at hq
    subst hq
    rw [hh] at hc
    simp at hc
    exact he hc.2.symm

/-- A row of another type is appended to: what reads, reads on. -/
theorem Rd.keptT {k : IntKind} {w w' : World} {a : Option Addr} {n cap : Nat} {xs : List Nat} (h : Rd k w a n cap xs) {base : Nat} {e e' : TypeId} {v : Value} {n' : Nat} {vs : List Value} (ht : Ty w a e) (hv : w.ownsRow base e' 1 v n' vs) (he : e ≠ e') {o : Obj} (hg : (w.alloc o).grownBy w' v.ownBlock) : Rd k w' a n cap xs ∧ Ty w' a e := by
  have hap := ty_apart ht hv he
  have hb : Below w.heap.size w (w.alloc o) := (Below.refl _ _).alloc (Nat.le_refl _) _
  refine ⟨(h.below hb).grown hg hap, fun p hp => ?_⟩
  obtain ⟨cs, hc⟩ := (ht.below hb) p hp
  exact ⟨cs, (hg.block _ (Array.getElem?_eq_some_iff.1 hc).1 (fun e => hap p hp e.symm)).trans hc⟩

section
variable {k : IntKind} {e : TypeId} {base g : Nat} {w : World} {n cap : Nat} {xs : List Nat}

theorem Ow.set (h : Ow k e base w (some ⟨g, 0, none⟩) n cap xs) (i v : Nat) (hv : v < lim k) : Ow k e base (w.setCell ⟨g, i, none⟩ (.int k (v : Nat))) (some ⟨g, 0, none⟩) n cap (xs.set i v) := by
  refine ⟨by simpa using h.len, ?_, fun x hx => ?_⟩
  · have := (h.own.stored i (.int k (v : Nat))).1
    simpa [nums, List.map_set] using this
  · rcases List.mem_or_eq_of_mem_set hx with h' | h'
    · exact h.bd x h'
    · omega

theorem Ow.at (h : Ow k e base w (some ⟨g, 0, none⟩) n cap xs) (i : Nat) (hi : i < n) : w.cell? ⟨g, i, none⟩ = some (.int k (nth xs i : Nat)) := by
  rw [h.own.cellAt i (by omega)]
  exact nums_at k xs i (by rw [h.len]; exact hi)

theorem Ow.free (h : Ow k e base w (some ⟨g, 0, none⟩) n cap xs) (i : Nat) : w.frozen? ⟨g, i, none⟩ = false := h.own.frozenAt i

theorem Ow.where {a : Option Addr} (h : Ow k e base w a n cap xs) (hn : 0 < n) : ∃ g, a = some ⟨g, 0, none⟩ ∧ base ≤ g ∧ g < w.heap.size := own_block h.own hn
end

/-- 'make([]T, 0, c)' in every world. -/
theorem run_zeros_cap {P : Program} {t e : TypeId} {k : IntKind} {bs : Nat} (T : ET P t e (.int k 0) bs) (c : Nat) (hb : bs * c ≤ 281474976710656) (hm : c ≤ 9223372036854775807) (w : World) :
    (Instr.makeSlice t (.int .i64 0) (.int .i64 (c : Int))).run P w = .ok (.slice (some ⟨w.heap.size, 0, none⟩) 0 c) (w.alloc (.cells (zeros k c) e)) := by
  obtain ⟨i, hi, hz, h1, hby⟩ := T.info
  have h2 := run_make (P := P) w t e i (.int k 0) T.ht hi hz .i64 .i64 0 (c : Int) (by omega) (by omega) (by
    rw [hby]
    have : ((bs * c : Nat) : Int) ≤ 281474976710656 := by omega
    rwa [Int.natCast_mul] at this) (by omega)
  rw [h2]
  have e1 : madeCells (Value.cells (.int k 0)) ((c : Int).toNat * i.size) = zeros k c := by
    apply Array.ext'
    show (madeCells #[.int k 0] _).toList = _
    rw [toList_madeCells_one, h1]
    simp [zeros, nums]
  rw [e1]
  simp

theorem Ow.made (k : IntKind) (e : TypeId) (w : World) (c : Nat) (hc : c ≤ maxLen) : Ow k e w.heap.size (w.alloc (.cells (zeros k c) e)) (some ⟨w.heap.size, 0, none⟩) 0 c [] :=
  ⟨rfl, World.ownsRow_made w (zeros k c) c (Nat.le_refl _) hc (by simp [zeros]), fun x hx => by simp at hx⟩

/-- A shorter part of an owned row is owned. -/
theorem Ow.take {k : IntKind} {e : TypeId} {base : Nat} {w : World} {a : Option Addr} {n cap : Nat} {xs : List Nat} (h : Ow k e base w a n cap xs) (j : Nat) (hj : j ≤ n) : Ow k e base w a j cap (xs.take j) := by
  have hl := h.len
  refine ⟨by simp; omega, ⟨by simp; omega, ?_⟩, fun x hx => h.bd x (List.mem_of_mem_take hx)⟩
  rcases h.own.2 with ⟨hv, hn⟩ | ⟨g, c, cur, hv, hg, hh, hnc, hm, hsz, htake⟩
  · simp at hv
    obtain ⟨rfl, rfl, rfl⟩ := hv
    obtain rfl : j = 0 := by omega
    exact .inl ⟨rfl, rfl⟩
  · simp at hv
    obtain ⟨rfl, rfl⟩ := hv
    refine .inr ⟨g, cap, cur, rfl, hg, hh, by omega, hm, hsz, ?_⟩
    have := congrArg (List.take (j * 1)) htake
    rw [List.take_take, Nat.min_eq_left (by omega)] at this
    rw [this]
    simp [nums, List.map_take]

theorem Ow.drewN {k : IntKind} {e : TypeId} {base : Nat} {w : World} {a : Option Addr} {n cap : Nat} {xs : List Nat} (h : Ow k e base w a n cap xs) (q : Nat) : Ow k e base (w.drewN q) a n cap xs :=
  h.below (below_drewN (Below.refl _ w) q)

theorem Rd.drewN {k : IntKind} {w : World} {a : Option Addr} {n cap : Nat} {xs : List Nat} (h : Rd k w a n cap xs) (q : Nat) : Rd k (w.drewN q) a n cap xs :=
  h.below (below_drewN (Below.refl _ w) q)

/-- 'make([]T, n)' is owned. -/
theorem Ow.full (k : IntKind) (e : TypeId) (w : World) (n : Nat) (hm : n ≤ maxLen) : Ow k e w.heap.size (w.alloc (.cells (zeros k n) e)) (some ⟨w.heap.size, 0, none⟩) n n (zs n) :=
  ⟨zs_length n, World.ownsRow_lit w (zeros k n) n (Nat.le_refl _) hm (by simp [zeros]), fun x hx => by
    have : x = 0 := List.eq_of_mem_replicate hx
    subst this
    cases k <;> decide⟩

/-- One number more, appended. -/
theorem Ow.snoc {k : IntKind} {e : TypeId} {base : Nat} {w w' : World} {a a' : Option Addr} {n m cap cap' : Nat} {xs : List Nat} (h : Ow k e base w a n cap xs) {x : Nat} (hx : x < lim k) (hm : m = n + 1) (ho : w'.ownsRow base e 1 (.slice a' m cap') m (nums k xs ++ [.int k (x : Nat)])) : Ow k e base w' a' m cap' (xs ++ [x]) := by
  subst hm
  refine ⟨by simp [h.len], by rw [nums_append]; exact ho, fun y hy => ?_⟩
  rw [List.mem_append] at hy
  rcases hy with hy | hy
  · exact h.bd y hy
  · simp at hy; omega

end Go.Suf
