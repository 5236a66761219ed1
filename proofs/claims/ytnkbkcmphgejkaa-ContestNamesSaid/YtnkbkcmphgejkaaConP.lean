/- Rows of a contest, and the program's Read of contests. Condition: at most 2^40 bytes. Printed by gen_conp.py. -/
import Derived.Test.YtnkbkcmphgejkaaConR
import Derived.Test.YtnkbkcmphgejkaaConM
import Derived.Test.YtnkbkcmphgejkaaOctetF
import Derived.Test.YtnkbkcmphgejkaaWOctetTells
import Derived.Deep.CutRange
import Derived.Deep.RegionHeld3
namespace Go.Proofs.Ytnkbkcmphgejkaa
open Go.RowKit Go.Suf
set_option linter.unusedVariables false
set_option linter.unusedSimpArgs false

theorem below_al (w : World) (o : Obj) : Below w.heap.size w (w.alloc o) := (Below.refl _ _).alloc (Nat.le_refl _) _

/-- The block k, laid since w, holds the cells of a value of type t. -/
structure PRow (t : TypeId) (w w1 : World) (k : Nat) (cs : Array Value) : Prop where
  below : Below w.heap.size w w1
  row : w1.heap[k]? = some (.cells cs t (0, 0))
  lo : w.heap.size ≤ k
  lt : k < w1.heap.size

theorem PRow.new (t : TypeId) (w : World) (cs : Array Value) : PRow t w (w.alloc (.cells cs t)) w.heap.size cs :=
  ⟨(Below.refl _ _).alloc (Nat.le_refl _) _, heap_alloc_new w _, Nat.le_refl _, by rw [World.size_alloc]; omega⟩

theorem PRow.keep {t : TypeId} {w w1 w2 : World} {k B : Nat} {cs : Array Value} (h : PRow t w w1 k cs) (hb : Below B w1 w2) (hk : k < B) : PRow t w w2 k cs :=
  ⟨h.below.trans (hb.mono (by have := h.lo; omega)), by rw [hb.block k hk]; exact h.row, h.lo, Nat.lt_of_lt_of_le h.lt hb.size⟩

theorem PRow.later {t : TypeId} {w w1 w2 : World} {k : Nat} {cs : Array Value} (h : PRow t w w1 k cs) (hb : Below w1.heap.size w1 w2) : PRow t w w2 k cs := h.keep hb h.lt

theorem PRow.drew {t : TypeId} {w w1 : World} {k : Nat} {cs : Array Value} (h : PRow t w w1 k cs) : PRow t w w1.drew k cs := h.later (Below.refl _ _).drew

theorem PRow.cell {t : TypeId} {w w1 : World} {k : Nat} {cs : Array Value} (h : PRow t w w1 k cs) (i : Nat) (v : Value) (hv : cs[i]? = some v) : w1.cell? ⟨k, i, none⟩ = some v := by
  simp only [World.cell?, h.row, hv]
  rfl

theorem PRow.cells {t : TypeId} {w w1 : World} {k : Nat} {cs : List Value} (h : PRow t w w1 k cs.toArray) (j : Nat) (u : Value) (hu : cs[j]? = some u) : w1.cell? ⟨k, 0 + j, none⟩ = some u := row_cells h.row j u hu

theorem PRow.set {t : TypeId} {w w1 : World} {k : Nat} {cs : Array Value} (h : PRow t w w1 k cs) (i : Nat) (v : Value) : PRow t w (w1.setCell ⟨k, i, none⟩ v) k (cs.setIfInBounds i v) :=
  ⟨h.below.setCell h.lo v, heap_setCell_same w1 k i cs t v h.row, h.lo, by have := h.lt; simpa [World.setCell] using this⟩

theorem PRow.free {t : TypeId} {w w1 : World} {k : Nat} {cs : Array Value} (h : PRow t w w1 k cs) (i : Nat) : w1.frozen? ⟨k, i, none⟩ = false := frozen_of_row w1 k i _ t h.row

theorem PRow.put {t : TypeId} {w w1 : World} {k : Nat} {cs : Array Value} (h : PRow t w w1 k cs) (cs' : Array Value) : PRow t w (w1.setRow k cs') k cs' :=
  ⟨below_set h.below h.lo _, setRow_heap _ _ _ _ _ _ h.row, h.lo, by rw [setRow_size]; exact h.lt⟩

theorem op_store_whole {P : Program} {o : Oper} {a : Act} {w : World} {K : Act → World → Prop} {Q : Exit → Act → World → Prop} (t : TypeId) (x y : Operand) (ho : o.op = .store t x y) {m : Nat} (A : AT P t m)
    {b : Nat} (cur vs : Array Value) (e : TypeId) (hg : w.heap[b]? = some (.cells cur e (0, 0))) (hx : a.eval x = .pointer (some ⟨b, 0, none⟩)) (hy : a.eval y = .agg vs) (hm : vs.size = m) (hcur : cur.size = m) (h1 : ∀ u ∈ vs.toList, u.oneCell' = true)
    (h : K (a.put o.dst undef) (w.setRow b vs)) : o.wp P a w K Q := by
  have hst := run_storeCells_at P b 0 e vs.toList 0 cur w hg (by simp; omega) h1
  simp only [Nat.add_zero, List.take_zero, List.nil_append, Array.length_toList] at hst
  rw [List.drop_eq_nil_of_le (by simp; omega), List.append_nil, Array.toArray_toList] at hst
  unfold Oper.wp execOp
  simp only [ho, hx, hy, Instr.storeAt, Instr.sureAddr, Sem.run_bind, Sem.run_pure, Result.andThen_ok, storeVar, A.sizeOf, Value.cells, hm]
  simp only [ne_eq, not_true_eq_false, if_false, hst]
  exact h

theorem cell_row {w : World} {k i g : Nat} {v : Value} {cs : Array Value} (h : w.cell? ⟨k, i, none⟩ = some v) (hne : k ≠ g) : (w.setRow g cs).cell? ⟨k, i, none⟩ = some v := by
  simp only [World.cell?, setRow_other _ _ _ _ hne] at *
  exact h

theorem results_cell_two {P : Program} {fn : Func} {p u : Tmp} {ty : TypeId} (h : fn.results = #[.cell p ty, .tmp u]) (tmps : Array Value) (w : World) (g : Nat) (t : TypeId) (cs : Array Value) (fr : Nat × Nat) (d : TypeDesc)
    (hp : tmps.getD p undef = .pointer (some ⟨g, 0, none⟩)) (hg : w.heap[g]? = some (.cells cs t fr))
    (hu : P.underlying ty = some d) (hd : (match d with | .struct _ | .array _ _ => true | _ => false) = true) (hi : (P.info? ty).map (·.size) = some cs.size) (v : Value) (hv : tmps.getD u undef = v) :
    (results fn tmps).run P w = .ok (.tuple #[.agg cs, v]) w := by
  have hp' : tmps[p]?.getD undef = .pointer (some ⟨g, 0, none⟩) := by simpa using hp
  have hv' : tmps[u]?.getD undef = v := by simpa using hv
  simp [results, h, hp', hv', asAddr, run_loadVar_row w g t ty cs fr d hg hu hd hi, Sem.run_bind, Result.andThen]

/-- 'x[i:]' of a slice whose place is known. -/
theorem wpList_fromA {P : Program} {ops : Array Oper} {rest : List Oper} {o : Oper} {a : Act} {w : World} {Q : Exit → Act → World → Prop} (hgd : o.guard = none) (x lo : Operand) (t : TypeId) (ho : o.op = .slice t x (some lo) none none) {e : TypeId} {z : Value} {bs : Nat} (T : ET P t e z bs)
    {b off n cap : Nat} (hx : a.eval x = .slice (some ⟨b, off, none⟩) n cap) {kl : IntKind} {I : Int} (hlo : a.eval lo = .int kl I) (i : Nat) (hI : I = (i : Int)) (hi : i < n) (hle : n ≤ cap)
    (K : wpList P ops Q rest (a.put o.dst (.slice (some ⟨b, off + i, none⟩) (n - i) (cap - i))) w) : wpList P ops Q (o :: rest) a w := by
  subst hI
  have ht' : P.underlying t = some (.slice (P.elem t)) := by rw [elem_of T]; exact T.ht
  have e1 : sliced (some ⟨b, off, none⟩) i n cap 1 = .slice (some ⟨b, off + i, none⟩) (n - i) (cap - i) := by
    unfold sliced
    rw [if_neg (by omega)]
    have : (⟨b, off, none⟩ : Addr).add (i * 1) = ⟨b, off + i, none⟩ := by unfold Addr.add; split <;> simp_all
    simp only [Option.map_some, this]
  have hrun : (Instr.sliceAt t (.slice (some ⟨b, off, none⟩) n cap) (some (.int kl i)) none none).run P w = .ok (.slice (some ⟨b, off + i, none⟩) (n - i) (cap - i)) w := by
    rw [run_sliceAt_slice w t _ _ _ _ ht', run_slice_l w t _ n cap ht' kl i (by omega) (by omega), elem_of T, run_sizeOf1 T]
    simp [e1]
  refine wpList_plain hgd fun K' hK => ?_
  unfold Oper.wp
  simp [execOp, ho, hx, hlo, hrun, Result.andThen]
  exact hK _ _ K

/-! ### Lists of bytes stay as they are where other memory is turned -/
theorem keepE_grown {w w' : World} {base : Nat} {e : TypeId} {v : Value} {n : Nat} {xs : List Value} (h : w.ownsRow base e 1 v n xs) (hg : w.grownBy w' v.ownBlock) : KeepE (fun t => t ≠ e) w w' := by
  intro k c t f ht hk
  rw [hg.block k (Array.getElem?_eq_some_iff.1 hk).1 ?_]
  · exact hk
  · intro he
    obtain ⟨c', hc'⟩ := own_cells h k he.symm
    rw [hc'] at hk
    simp at hk
    exact ht hk.2.1.symm

theorem OwL.grown {base base' : Nat} {w w' : World} {a : Option Addr} {n cap m : Nat} {xss : List (List Nat)} {v : Value} {vs : List Value} (h : OwL base w a n cap xss) (hv : w.ownsRow base' 9 1 v m vs) (hg : w.grownBy w' v.ownBlock) : OwL base w' a n cap xss :=
  h.keepE (p := fun t => t ≠ 9) (by decide) (by decide) (keepE_grown hv hg)

theorem OwL.setC {base k i : Nat} {w : World} {a : Option Addr} {n cap : Nat} {xss : List (List Nat)} {cs : Array Value} (h : OwL base w a n cap xss) (hr : w.heap[k]? = some (.cells cs 40 (0, 0))) (u : Value) : OwL base (w.setCell ⟨k, i, none⟩ u) a n cap xss :=
  h.keepE (p := fun t => t ≠ 40) (by decide) (by decide) (keepE_store hr u)

theorem keepE_row {w : World} {k : Nat} {t : TypeId} {cs : Array Value} (hr : w.heap[k]? = some (.cells cs t (0, 0))) (cs' : Array Value) : KeepE (fun e => e ≠ t) w (w.setRow k cs') := by
  intro q c e f he hk
  by_cases hq : q = k
  · subst hq
    rw [hr] at hk
    simp at hk
    exact absurd hk.2.1.symm he
  · rw [setRow_other _ _ _ _ hq]; exact hk

theorem OwL.setR {base k : Nat} {w : World} {a : Option Addr} {n cap : Nat} {xss : List (List Nat)} {cs : Array Value} (h : OwL base w a n cap xss) (hr : w.heap[k]? = some (.cells cs 40 (0, 0))) (cs' : Array Value) : OwL base (w.setRow k cs') a n cap xss :=
  h.keepE (p := fun t => t ≠ 40) (by decide) (by decide) (keepE_row hr cs')

theorem split_count {xs : List Nat} (hx : ∀ x ∈ xs, x < 256) : (splitX xs).1.length ≤ xs.length := by
  rcases join_split xs hx with ⟨_, h1, _⟩ | ⟨_, h1⟩
  · have e := joinX_flat h1
    have : ∀ l : List (List Nat), l.length ≤ (l.flatMap field).length := by
      intro l
      induction l with
      | nil => simp
      | cons y l ih =>
        have := field_length y
        rw [List.flatMap_cons, List.length_append, List.length_cons]
        omega
    exact Nat.le_trans (this _) (Nat.le_of_eq (congrArg List.length e.symm))
  · rw [h1]
    simp

theorem wrap_in {z : Int} (h1 : -9223372036854775808 ≤ z) (h2 : z ≤ 9223372036854775807) : IntKind.i64.wrap z = z := by
  rw [IntKind.wrap_i64]
  omega

/-- An element of an own list: its place and its bytes. -/
theorem OwL.at {base : Nat} {w : World} {a : Option Addr} {n cap : Nat} {xss : List (List Nat)} (h : OwL base w a n cap xss) (i : Nat) (hi : i < n) :
    ∃ b off q m k, a = some ⟨b, off, none⟩ ∧ base ≤ b ∧ w.cell? ⟨b, off + i, none⟩ = some (.slice q m k) ∧ Ow .u8 5 base w q m k (lth xss i) := by
  obtain ⟨vs, hv, ho, hr⟩ := h.row
  obtain ⟨g, rfl, hg, hlt⟩ := own_block hv (by omega)
  obtain ⟨q, m, k, e1, e2⟩ := hr i hi
  obtain ⟨b, off, e, hc⟩ := (sl_of_own hv ho).cell i _ e1
  obtain ⟨rfl, rfl⟩ : g = b ∧ 0 = off := by simpa using e
  exact ⟨g, 0, q, m, k, rfl, hg, hc, e2⟩

theorem Ow.setR {base k : Nat} {w : World} {a : Option Addr} {n cap : Nat} {xs : List Nat} {cs : Array Value} (h : Ow .u8 5 base w a n cap xs) (hr : w.heap[k]? = some (.cells cs 40 (0, 0))) (cs' : Array Value) : Ow .u8 5 base (w.setRow k cs') a n cap xs :=
  ⟨h.len, own_keepE (p := fun t => t ≠ 40) (by decide) (keepE_row hr cs') h.own, h.bd⟩

/-- Strings read on where a contest's row is turned. -/
theorem rdS_setR {w : World} {k : Nat} {a : Option Addr} {n cap : Nat} {ss : List ByteArray} {base : Nat} (h : OwS 9 base w a n cap ss) (hk : k < base) (cs : Array Value) : RdS (w.setRow k cs) a n cap ss := (h.setR hk cs).rd

/-- A contest and an error. -/
def RetK (w : World) (r : CQ × Int) : Ending → World → Prop := fun e w' =>
  ∃ a n cap, e = .returned (.tuple #[.agg #[.string r.1.nm, .slice a n cap, .int .i64 (r.1.seats : Nat), .int .u8 (r.1.rule : Nat)], .int .i64 r.2]) ∧ RdS w' a n cap r.1.ss ∧ Below w.heap.size w w'

theorem ret_zero {w w1 : World} {k : Nat} {r : CQ × Int} {x : Int} {cs : Array Value} (hr : r = (zeroK, x)) (R : PRow 40 w w1 k cs) :
    RetK w r (.returned (.tuple #[.agg #[Value.string ⟨#[]⟩, .slice none 0 0, .int .i64 0, .int .u8 0], .int .i64 x])) w1 := by
  subst hr
  exact ⟨none, 0, 0, rfl, ⟨rfl, Sl.empty _ _ _ (Nat.zero_le _) (fun _ => rfl)⟩, R.below⟩

set_option maxRecDepth 100000 in
set_option maxHeartbeats 4000000 in
theorem Read_any (w : World) {a : Option Addr} {n cap : Nat} {xs : List Nat} (h : Rd .u8 w a n cap xs) (hn : n ≤ 1099511627776) :
    Calls Try.prog 30 #[.slice a n cap] w (RetK w (readC xs)) := by
  obtain ⟨r, hr0⟩ : ∃ r, r = readC xs := ⟨_, rfl⟩
  rw [← hr0]
  have HC := Lib.hid (show (splitX xs).1.length ≤ n by rw [← h.len]; exact split_count h.bd)
  have R0 := PRow.new 40 w #[Value.string ⟨#[]⟩, .slice none 0 0, .int .i64 0, .int .u8 0]
  have c := Split_any _ (h.below R0.below) hn
  go_enter Try.func30, Try.ntmps30
  go_wp2_with fail
  have hz0 : (w.alloc (.cells #[Value.string ⟨#[]⟩, .slice none 0 0, .int .i64 0, .int .u8 0] 40)).heap.size = w.heap.size + 1 := World.size_alloc _ _
  generalize w.alloc (.cells #[Value.string ⟨#[]⟩, .slice none 0 0, .int .i64 0, .int .u8 0] 40) = wA at *
  refine c.mono ?_
  rintro e w1 ⟨a1, n1, c1, rfl, ho1, hb1⟩
  clear c
  rw [hz0] at ho1
  have R1 := R0.later hb1
  clear R0 hb1 hz0 h
  by_cases hz : (splitX xs).2 = 0
  case neg =>
    have HE := Lib.hid (show r = (zeroK, (splitX xs).2) by rw [hr0, readC, if_neg hz])
    clear hr0
    go_wp2_with first | refine wpList_load_agg rfl 40 _ rfl atCon rfl [Value.string ⟨#[]⟩, .slice none 0 0, .int .i64 0, .int .u8 0] rfl (PRow.cells R1) ?_ | refine wpList_store_whole rfl 40 _ _ rfl atCon _ _ _ R1.row rfl rfl rfl rfl (con_one ⟨#[]⟩ none 0 0 0 0) ?_
    refine bodyPost_ret (results_cell_two rfl _ _ _ _ _ _ _ rfl (setRow_heap _ _ _ _ _ _ R1.row) Try.underlying40 rfl (by kernel_rfl) _ rfl) rfl ?_
    exact ret_zero HE.out (R1.put _)
  have hr1 : r = fmt (splitX xs).1 := by rw [hr0, readC, if_pos hz]
  rw [hz]
  clear hr0 hz
  generalize (splitX xs).1 = l at *
  have hl := ho1.len
  have hcap := ho1.rd.lt
  by_cases h3 : n1 < 3
  case pos =>
    have HE := Lib.hid (show r = (zeroK, 11) by rw [hr1, fmt, if_pos (.inl (by omega))])
    have d3 : decide ((n1 : Int) < 3) = true := decide_eq_true (by omega)
    clear hr1 hl
    go_wp2_with first | refine wpList_load_agg rfl 40 _ rfl atCon rfl [Value.string ⟨#[]⟩, .slice none 0 0, .int .i64 0, .int .u8 0] rfl (PRow.cells R1) ?_ | refine wpList_store_whole rfl 40 _ _ rfl atCon _ _ _ R1.row rfl rfl rfl rfl (con_one ⟨#[]⟩ none 0 0 0 0) ?_
    refine bodyPost_ret (results_cell_two rfl _ _ _ _ _ _ _ rfl (setRow_heap _ _ _ _ _ _ R1.row) Try.underlying40 rfl (by kernel_rfl) _ rfl) rfl ?_
    exact ret_zero HE.out (R1.put _)
  have d3 : decide ((n1 : Int) < 3) = false := decide_eq_false (by omega)
  obtain ⟨b, off, q1, m1, k1, rfl, hbb, hc1, ho_1⟩ := ho1.at 1 (by omega)
  obtain ⟨b', off', q0, m0, k0, e0, hbb', hc0, ho_0⟩ := ho1.at 0 (by omega)
  have hr_1 := ho_1.rd
  have hr_0 := ho_0.rd
  obtain ⟨rfl, rfl⟩ : b = b' ∧ off = off' := by simpa using e0
  clear e0
  rw [Nat.add_zero] at hc0
  have hm1 := hr_1.len
  by_cases h2 : m1 = 2
  case neg =>
    have HE := Lib.hid (show r = (zeroK, 11) by rw [hr1, fmt, if_pos (.inr (by omega))])
    have d2 : decide ((m1 : Int) = 2) = false := decide_eq_false (by omega)
    have l1 : (1 : Int) < (n1 : Int) := by omega
    clear hr1 hl hm1
    go_wp2_with first | refine wpList_load_agg rfl 40 _ rfl atCon rfl [Value.string ⟨#[]⟩, .slice none 0 0, .int .i64 0, .int .u8 0] rfl (PRow.cells R1) ?_ | refine wpList_store_whole rfl 40 _ _ rfl atCon _ _ _ R1.row rfl rfl rfl rfl (con_one ⟨#[]⟩ none 0 0 0 0) ?_
    refine bodyPost_ret (results_cell_two rfl _ _ _ _ _ _ _ rfl (setRow_heap _ _ _ _ _ _ R1.row) Try.underlying40 rfl (by kernel_rfl) _ rfl) rfl ?_
    exact ret_zero HE.out (R1.put _)
  subst h2
  have hnf : ¬ (l.length < 3 ∨ (lth l 1).length ≠ 2) := by omega
  have HR := Lib.hid (show r = if chkK (ofF l) = 0 then (ofF l, 0) else (zeroK, 11) by rw [hr1, fmt, if_neg hnf])
  have l1 : (1 : Int) < (n1 : Int) := by omega
  have l0 : (0 : Int) < (n1 : Int) := by omega
  have l1' : 1 < n1 := by omega
  have l0' : 0 < n1 := by omega
  have HL := Lib.hid hl
  have HM := Lib.hid hm1
  obtain ⟨gb, eb0, hgb, _⟩ := own_block ho_1.own (by omega)
  obtain ⟨bb, boff, rfl, hv0, lv0⟩ := hr_1.cell 0 (by omega)
  obtain ⟨rfl, -⟩ : bb = gb ∧ boff = 0 := by simpa using eb0
  clear eb0
  obtain ⟨bb', boff', eb, hv1, lv1⟩ := hr_1.cell 1 (by omega)
  obtain ⟨rfl, rfl⟩ : bb = bb' ∧ boff = boff' := by simpa using eb
  clear eb
  rw [Nat.add_zero] at hv0
  have lv0 : nth (lth l 1) 0 < 256 := lv0
  have lv1 : nth (lth l 1) 1 < 256 := lv1
  have VS := Lib.hid lv0
  have VR := Lib.hid lv1
  have hs0 : (ofF l).seats = nth (lth l 1) 0 := rfl
  have hs1 : (ofF l).rule = nth (lth l 1) 1 := rfl
  have hs2 : strB (lth l 0) = (ofF l).nm := rfl
  rw [← hs0] at hv0 lv0 VS
  rw [← hs1] at hv1 lv1 VR
  clear hr1 hl hm1 hnf hs0 hs1
  have hcv : ∀ w', Below w1.heap.size w1 w' → Sem.run Try.prog (convert 52 9 (.slice q0 m0 k0)) w' = .ok (.string (ofF l).nm) w' := fun w' hb => by rw [convB (hr_0.below hb), hs2]
  go_upto_region 6 with fail
  refine wp_region_held_drew (S := (fun w' => Sem.run Try.prog (convert 52 9 (.slice q0 m0 k0)) w' = .ok (.string (ofF l).nm) w' ∧ w'.cell? ⟨b, off, none⟩ = some (.slice q0 m0 k0) ∧ w'.cell? ⟨b, off + 1, none⟩ = some (.slice (some ⟨bb, boff, none⟩) 2 k1) ∧ w'.cell? ⟨bb, boff, none⟩ = some (.int .u8 ((ofF l).seats : Nat)) ∧ w'.cell? ⟨bb, boff + 1, none⟩ = some (.int .u8 ((ofF l).rule : Nat)))) (by kernel_rfl) ?_ (fun hHeld => ?_)
  · exact ⟨hcv _ (Below.refl _ _).drew, cell_below (Below.refl _ _).drew hc0, cell_below (Below.refl _ _).drew hc1, cell_below (Below.refl _ _).drew hv0, cell_below (Below.refl _ _).drew hv1⟩
  refine wpAnyH_take (i := 0) (oi := ?oir2_0) (v := ?vr2_0) ?hir2_0 (by kernel_rfl) (by kernel_rfl) (by kernel_rfl) ?hqr2_0 ?hyr2_0 (by assumption) ?restr2_0
  case hir2_0 => simp only [List.getElem?_toArray, List.getElem?_cons_succ, List.getElem?_cons_zero]; rfl
  case hqr2_0 => exact fun _ _ _ h => h
  case hyr2_0 => (refine Or.inl ⟨by rfl, ?_⟩; intro w hSw; (try dsimp only at hSw); go_simp; all_goals with_reducible rfl)
  try simp only [Act.put, List.setIfInBounds_toArray, List.set_cons_zero, List.set_cons_succ]
  refine wpAnyH_take (i := 1) (oi := ?oir2_1) (v := ?vr2_1) ?hir2_1 (by kernel_rfl) (by kernel_rfl) (by kernel_rfl) ?hqr2_1 ?hyr2_1 (by assumption) ?restr2_1
  case hir2_1 => simp only [List.getElem?_toArray, List.getElem?_cons_succ, List.getElem?_cons_zero]; rfl
  case hqr2_1 => exact fun _ _ _ h => h
  case hyr2_1 => (refine Or.inl ⟨by rfl, ?_⟩; intro w hSw; (try dsimp only at hSw); go_simp; all_goals with_reducible rfl)
  try simp only [Act.put, List.setIfInBounds_toArray, List.set_cons_zero, List.set_cons_succ]
  refine wpAnyH_take (i := 2) (oi := ?oir2_2) (v := ?vr2_2) ?hir2_2 (by kernel_rfl) (by kernel_rfl) (by kernel_rfl) ?hqr2_2 ?hyr2_2 (by assumption) ?restr2_2
  case hir2_2 => simp only [List.getElem?_toArray, List.getElem?_cons_succ, List.getElem?_cons_zero]; rfl
  case hqr2_2 => exact fun _ _ _ h => h
  case hyr2_2 => (refine Or.inl ⟨by rfl, ?_⟩; intro w hSw; (try dsimp only at hSw); go_simp; all_goals with_reducible rfl)
  try simp only [Act.put, List.setIfInBounds_toArray, List.set_cons_zero, List.set_cons_succ]
  refine wpAnyH_take (i := 3) (oi := ?oir2_3) (v := ?vr2_3) ?hir2_3 (by kernel_rfl) (by kernel_rfl) (by kernel_rfl) ?hqr2_3 ?hyr2_3 (by assumption) ?restr2_3
  case hir2_3 => simp only [List.getElem?_toArray, List.getElem?_cons_succ, List.getElem?_cons_zero]; rfl
  case hqr2_3 => exact fun _ _ _ h => h
  case hyr2_3 => (refine Or.inl ⟨by rfl, ?_⟩; intro w hSw; (try dsimp only at hSw); go_simp; all_goals with_reducible rfl)
  try simp only [Act.put, List.setIfInBounds_toArray, List.set_cons_zero, List.set_cons_succ]
  refine wpAnyH_take (i := 4) (oi := ?oir2_4) (v := ?vr2_4) ?hir2_4 (by kernel_rfl) (by kernel_rfl) (by kernel_rfl) ?hqr2_4 ?hyr2_4 (by assumption) ?restr2_4
  case hir2_4 => simp only [List.getElem?_toArray, List.getElem?_cons_succ, List.getElem?_cons_zero]; rfl
  case hqr2_4 => exact fun _ _ _ h => h
  case hyr2_4 => (refine Or.inl ⟨by rfl, ?_⟩; intro w hSw; (try dsimp only at hSw); go_simp; all_goals with_reducible rfl)
  try simp only [Act.put, List.setIfInBounds_toArray, List.set_cons_zero, List.set_cons_succ]
  refine wpAnyH_take (i := 5) (oi := ?oir2_5) (v := ?vr2_5) ?hir2_5 (by kernel_rfl) (by kernel_rfl) (by kernel_rfl) ?hqr2_5 ?hyr2_5 (by assumption) ?restr2_5
  case hir2_5 => simp only [List.getElem?_toArray, List.getElem?_cons_succ, List.getElem?_cons_zero]; rfl
  case hqr2_5 => exact fun _ _ _ h => h
  case hyr2_5 => (refine Or.inl ⟨by rfl, ?_⟩; intro w hSw; (try dsimp only at hSw); go_simp; all_goals with_reducible rfl)
  try simp only [Act.put, List.setIfInBounds_toArray, List.set_cons_zero, List.set_cons_succ]
  refine wpAnyH_take (i := 6) (oi := ?oir2_6) (v := ?vr2_6) ?hir2_6 (by kernel_rfl) (by kernel_rfl) (by kernel_rfl) ?hqr2_6 ?hyr2_6 (by assumption) ?restr2_6
  case hir2_6 => simp only [List.getElem?_toArray, List.getElem?_cons_succ, List.getElem?_cons_zero]; rfl
  case hqr2_6 => exact fun _ _ _ h => h
  case hyr2_6 => (refine Or.inl ⟨by rfl, ?_⟩; intro w hSw; (try dsimp only at hSw); go_simp; all_goals with_reducible rfl)
  try simp only [Act.put, List.setIfInBounds_toArray, List.set_cons_zero, List.set_cons_succ]
  refine wpAnyH_take (i := 7) (oi := ?oir2_7) (v := ?vr2_7) ?hir2_7 (by kernel_rfl) (by kernel_rfl) (by kernel_rfl) ?hqr2_7 ?hyr2_7 (by assumption) ?restr2_7
  case hir2_7 => simp only [List.getElem?_toArray, List.getElem?_cons_succ, List.getElem?_cons_zero]; rfl
  case hqr2_7 => exact fun _ _ _ h => h
  case hyr2_7 => (refine Or.inl ⟨by rfl, ?_⟩; intro w hSw; (try dsimp only at hSw); go_simp; all_goals with_reducible rfl)
  try simp only [Act.put, List.setIfInBounds_toArray, List.set_cons_zero, List.set_cons_succ]
  refine wpAnyH_take (i := 8) (oi := ?oir2_8) (v := ?vr2_8) ?hir2_8 (by kernel_rfl) (by kernel_rfl) (by kernel_rfl) ?hqr2_8 ?hyr2_8 (by assumption) ?restr2_8
  case hir2_8 => simp only [List.getElem?_toArray, List.getElem?_cons_succ, List.getElem?_cons_zero]; rfl
  case hqr2_8 => exact fun _ _ _ h => h
  case hyr2_8 => (refine Or.inl ⟨by rfl, ?_⟩; intro w hSw; (try dsimp only at hSw); go_simp; all_goals with_reducible rfl)
  try simp only [Act.put, List.setIfInBounds_toArray, List.set_cons_zero, List.set_cons_succ]
  refine wpAnyH_take (i := 9) (oi := ?oir2_9) (v := ?vr2_9) ?hir2_9 (by kernel_rfl) (by kernel_rfl) (by kernel_rfl) ?hqr2_9 ?hyr2_9 (by assumption) ?restr2_9
  case hir2_9 => simp only [List.getElem?_toArray, List.getElem?_cons_succ, List.getElem?_cons_zero]; rfl
  case hqr2_9 => exact fun _ _ _ h => h
  case hyr2_9 => (refine Or.inl ⟨by rfl, ?_⟩; intro w hSw; (try dsimp only at hSw); go_simp; all_goals with_reducible rfl)
  try simp only [Act.put, List.setIfInBounds_toArray, List.set_cons_zero, List.set_cons_succ]
  refine wpAnyH_take (i := 10) (oi := ?oir2_10) (v := ?vr2_10) ?hir2_10 (by kernel_rfl) (by kernel_rfl) (by kernel_rfl) ?hqr2_10 ?hyr2_10 (by assumption) ?restr2_10
  case hir2_10 => simp only [List.getElem?_toArray, List.getElem?_cons_succ, List.getElem?_cons_zero]; rfl
  case hqr2_10 => exact fun _ _ _ h => h
  case hyr2_10 => (refine Or.inl ⟨by rfl, ?_⟩; intro w hSw; (try dsimp only at hSw); go_simp; all_goals with_reducible rfl)
  try simp only [Act.put, List.setIfInBounds_toArray, List.set_cons_zero, List.set_cons_succ]
  refine wpAnyH_take (i := 11) (oi := ?oir2_11) (v := ?vr2_11) ?hir2_11 (by kernel_rfl) (by kernel_rfl) (by kernel_rfl) ?hqr2_11 ?hyr2_11 (by assumption) ?restr2_11
  case hir2_11 => simp only [List.getElem?_toArray, List.getElem?_cons_succ, List.getElem?_cons_zero]; rfl
  case hqr2_11 => exact fun _ _ _ h => h
  case hyr2_11 => (refine Or.inl ⟨by rfl, ?_⟩; intro w hSw; (try dsimp only at hSw); go_simp; all_goals with_reducible rfl)
  try simp only [Act.put, List.setIfInBounds_toArray, List.set_cons_zero, List.set_cons_succ]
  refine wpAnyH_take (i := 12) (oi := ?oir2_12) (v := ?vr2_12) ?hir2_12 (by kernel_rfl) (by kernel_rfl) (by kernel_rfl) ?hqr2_12 ?hyr2_12 (by assumption) ?restr2_12
  case hir2_12 => simp only [List.getElem?_toArray, List.getElem?_cons_succ, List.getElem?_cons_zero]; rfl
  case hqr2_12 => exact fun _ _ _ h => h
  case hyr2_12 => (refine Or.inl ⟨by rfl, ?_⟩; intro w hSw; (try dsimp only at hSw); go_simp; all_goals with_reducible rfl)
  try simp only [Act.put, List.setIfInBounds_toArray, List.set_cons_zero, List.set_cons_succ]
  refine wpAnyH_take (i := 13) (oi := ?oir2_13) (v := ?vr2_13) ?hir2_13 (by kernel_rfl) (by kernel_rfl) (by kernel_rfl) ?hqr2_13 ?hyr2_13 (by assumption) ?restr2_13
  case hir2_13 => simp only [List.getElem?_toArray, List.getElem?_cons_succ, List.getElem?_cons_zero]; rfl
  case hqr2_13 => exact fun _ _ _ h => h
  case hyr2_13 => (refine Or.inl ⟨by rfl, ?_⟩; intro w hSw; (try dsimp only at hSw); go_simp; all_goals with_reducible rfl)
  try simp only [Act.put, List.setIfInBounds_toArray, List.set_cons_zero, List.set_cons_succ]
  refine wpAnyH_take (i := 14) (oi := ?oir2_14) (v := ?vr2_14) ?hir2_14 (by kernel_rfl) (by kernel_rfl) (by kernel_rfl) ?hqr2_14 ?hyr2_14 (by assumption) ?restr2_14
  case hir2_14 => simp only [List.getElem?_toArray, List.getElem?_cons_succ, List.getElem?_cons_zero]; rfl
  case hqr2_14 => exact fun _ _ _ h => h
  case hyr2_14 => (refine Or.inl ⟨by rfl, ?_⟩; intro w hSw; (try dsimp only at hSw); go_simp; all_goals with_reducible rfl)
  try simp only [Act.put, List.setIfInBounds_toArray, List.set_cons_zero, List.set_cons_succ]
  refine wpAnyH_take (i := 15) (oi := ?oir2_15) (v := ?vr2_15) ?hir2_15 (by kernel_rfl) (by kernel_rfl) (by kernel_rfl) ?hqr2_15 ?hyr2_15 (by assumption) ?restr2_15
  case hir2_15 => simp only [List.getElem?_toArray, List.getElem?_cons_succ, List.getElem?_cons_zero]; rfl
  case hqr2_15 => exact fun _ _ _ h => h
  case hyr2_15 => (refine Or.inl ⟨by rfl, ?_⟩; intro w hSw; (try dsimp only at hSw); go_simp; all_goals with_reducible rfl)
  try simp only [Act.put, List.setIfInBounds_toArray, List.set_cons_zero, List.set_cons_succ]
  simp only [wrap_in (show -9223372036854775808 ≤ (((ofF l).seats : Nat) : Int) by omega) (show (((ofF l).seats : Nat) : Int) ≤ 9223372036854775807 by omega)]
  have D0 : Below w1.heap.size w1 w1.drew := (Below.refl _ _).drew
  have ho1 := ho1.below D0
  have R1 := R1.drew
  have hcv2 : ∀ cs, Sem.run Try.prog (convert 52 9 (.slice q0 m0 k0)) (w1.drew.setRow w.heap.size cs) = .ok (.string (ofF l).nm) (w1.drew.setRow w.heap.size cs) := fun cs => by rw [convB (Ow.setR (ho_0.below D0) R1.row cs).rd, hs2]
  have hkB : ∀ k i v, k ≠ w.heap.size → w1.cell? ⟨k, i, none⟩ = some v → (w1.drew.setRow w.heap.size #[.string (ofF l).nm, .slice none 0 0, .int .i64 ((ofF l).seats : Nat), .int .u8 ((ofF l).rule : Nat)]).cell? ⟨k, i, none⟩ = some v := fun k i v hk hv => cell_row (cell_below D0 hv) hk
  refine wpAnyH_ready (rs := [16]) (by kernel_rfl) (by simp) ?_
  refine AllReadyH.cons (o := ?ob3_16) ?hob3_16 (fun K hK => ?kb3_16) AllReadyH.nil
  case hob3_16 => simp only [List.getElem?_toArray, List.getElem?_cons_succ, List.getElem?_cons_zero]; rfl
  rw [if_pos (by rfl)]
  refine op_store_whole 40 _ _ rfl atCon _ _ _ R1.row rfl rfl rfl rfl (con_one _ _ _ _ _ _) ?_
  refine hK.out _ _ ?_ (fun hHeld => ?_)
  · exact ⟨hcv2 _, hkB _ _ _ (by omega) hc0, hkB _ _ _ (by omega) hc1, hkB _ _ _ (by omega) hv0, hkB _ _ _ (by omega) hv1⟩
  clear hK K
  try simp only [Act.put, List.setIfInBounds_toArray, List.set_cons_zero, List.set_cons_succ]
  refine wpAnyH_done (by kernel_rfl) ?_ _
  clear hHeld
  have hoL := ho1.setR R1.row #[.string (ofF l).nm, .slice none 0 0, .int .i64 ((ofF l).seats : Nat), .int .u8 ((ofF l).rule : Nat)]
  have RR := R1.put #[.string (ofF l).nm, .slice none 0 0, .int .i64 ((ofF l).seats : Nat), .int .u8 ((ofF l).rule : Nat)]
  have hmx : n1 ≤ 1099511627776 := by have := HC.out; have := ho1.len; omega
  have hhc : n1 ≤ c1 := by obtain ⟨vs, hv1, hv2, _⟩ := hoL.rd.row; have := hv2.le; omega
  have LV0 := Lib.hid lv0
  have LV1 := Lib.hid lv1
  clear hcv hcv2 hkB hc0 hc1 hv0 hv1 VS VR lv0 lv1 D0 ho_0 ho_1 hr_0 hr_1
  generalize w1.drew.setRow w.heap.size #[.string (ofF l).nm, .slice none 0 0, .int .i64 ((ofF l).seats : Nat), .int .u8 ((ofF l).rule : Nat)] = w2 at *
  have l2 : 2 < n1 := by omega
  obtain ⟨m, hm⟩ : ∃ m, n1 - 2 = m := ⟨_, rfl⟩
  have hs0 : OwS 9 (w.heap.size + 1) w2 none 0 0 (((l.drop 2).take 0).map strB) := OwS.nil _ _ _
  have HL := Lib.hid ho1.len
  clear ho1 R1 hcap HM d3 l1 l0 l1' l0'
  go_wp2_with (refine wpList_fromA rfl _ _ 81 rfl etL rfl rfl 2 rfl (by omega) (by omega) ?_; rw [hm])
  go_loopw [6, 46] (fun v j wr => ∃ i a' c', i ≤ m ∧ j = .int .i64 (i : Nat) ∧ PRow 40 w wr w.heap.size #[.string (ofF l).nm, .slice a' i c', .int .i64 ((ofF l).seats : Nat), .int .u8 ((ofF l).rule : Nat)] ∧ OwS 9 (w.heap.size + 1) wr a' i c' (((l.drop 2).take i).map strB) ∧ OwL (w.heap.size + 1) wr (some ⟨b, off, none⟩) n1 c1 l) (fun _ j _ => m - (intOf j).toNat)
  case atStart => exact ⟨0, none, 0, Nat.zero_le _, rfl, RR, hs0, hoL⟩
  clear RR hs0 hoL
  case round =>
    rename_i wr _
    obtain ⟨i, a', c', hi, rfl, R, hs, hoL⟩ := hrel
    have hz := R.lt
    by_cases hlt : i < m
    · obtain ⟨b2, off2, q, mq, kq, e2, hb2, hc2, ho2⟩ := hoL.at (2 + i) (by omega)
      obtain ⟨rfl, rfl⟩ : b = b2 ∧ off = off2 := by simpa using e2
      clear e2
      rw [← Nat.add_assoc] at hc2
      have hcv : Sem.run Try.prog (convert 52 9 (.slice q mq kq)) wr = .ok (.string (strB (lth l (2 + i)))) wr := convB ho2.rd
      have k1 := R.cell 1 _ rfl
      have HS := Lib.hid hs.len
      have hcap := hs.rd.lt
      have hown0 := hs.own
      clear ho2
      go_wp2_with (at_builtin; refine wpList_app rfl _ _ 38 rfl etS (w.heap.size + 1) rfl (hown0.alloc _) rfl rfl (sl_new wr _ 9 rfl) (by unfold maxLen; omega) (by omega) (by simp; omega) ?_; intro a5 c5 w5 hown5 hg5 hb5; refine Hid.out ?_)
      have R5 := (R.later (below_al wr _)).keep hb5 (by omega)
      have hoL5 := (hoL.below (below_al wr _)).grown (hown0.alloc _) hg5
      have f5 := R5.free 1
      have k5 := R5.cell 1 _ rfl
      have HW := Lib.hid hown5
      have HG := Lib.hid hg5
      have HB := Lib.hid hb5
      have HR5 := Lib.hid R5
      have HOL := Lib.hid hoL5
      clear k1 hcv hc2 hown5 hg5 hb5 R5 hoL5 hown0 R hs hoL
      refine Lib.hid ?_
      go_wp2_with fail
      go_roundw
      case rel =>
        have hln : i < (l.drop 2).length := by have := HL.out; simp; omega
        have ht : ((l.drop 2).take (i + 1)).map strB = ((l.drop 2).take i).map strB ++ [strB (lth l (2 + i))] := by
          rw [List.take_succ_eq_append_getElem hln, List.map_append]
          simp [lth, List.getD_eq_getElem?_getD, show 2 + i < l.length by have := HL.out; omega]
        have hs5 : OwS 9 (w.heap.size + 1) w5 a5 (i + 1) c5 (((l.drop 2).take (i + 1)).map strB) := by
          refine ⟨by rw [ht, List.length_append, HS.out]; rfl, ?_⟩
          rw [ht]
          simpa [strs] using HW.out
        exact ⟨i + 1, a5, c5, by omega, by go_num, by simpa using HR5.out.set 1 (.slice a5 (i + 1) c5), hs5.setC (by omega) _, HOL.out.setC HR5.out.row _⟩
      case measure => simp [intOf]; omega
    · obtain rfl : i = m := by omega
      have hall : ((l.drop 2).take i).map strB = (ofF l).ss := by
        rw [List.take_of_length_le (by have := HL.out; simp; omega)]
        rfl
      rw [hall] at hs
      have hrs := hs.rd
      clear hoL hall
      go_wp2_with first | refine wpList_load_agg rfl 40 _ rfl atCon rfl [.string (ofF l).nm, .slice a' i c', .int .i64 ((ofF l).seats : Nat), .int .u8 ((ofF l).rule : Nat)] rfl (PRow.cells R) ?_
      refine (Check_any _ (ofF l).nm hrs ((ofF l).seats : Nat) (by omega) (by have := LV0.out; omega) (ofF l).rule LV1.out).mono ?_
      rintro e w6 ⟨rfl, hb6⟩
      have R6 := R.later hb6
      have hr6 := hs.below hb6
      clear R hrs hs hb6 hz
      rw [show checkC (ofF l).nm (ofF l).ss (((ofF l).seats : Nat) : Int) (ofF l).rule = chkK (ofF l) from rfl]
      by_cases hk : chkK (ofF l) = 0
      case pos =>
        have HE := Lib.hid (show r = (ofF l, 0) by rw [HR.out, if_pos hk])
        rw [hk]
        clear hk HR
        go_wp2_with first | refine wpList_load_agg rfl 40 _ rfl atCon rfl [.string (ofF l).nm, .slice a' i c', .int .i64 ((ofF l).seats : Nat), .int .u8 ((ofF l).rule : Nat)] rfl (PRow.cells R6) ?_ | refine wpList_store_whole rfl 40 _ _ rfl atCon _ _ _ R6.row rfl rfl rfl rfl (con_one _ _ _ _ _ _) ?_
        refine bodyPost_ret (results_cell_two rfl _ _ _ _ _ _ _ rfl (setRow_heap _ _ _ _ _ _ R6.row) Try.underlying40 rfl (by kernel_rfl) _ rfl) rfl ?_
        rw [HE.out]
        exact ⟨a', i, c', rfl, rdS_setR hr6 (Nat.lt_succ_self _) _, (R6.put _).below⟩
      case neg =>
        have HE := Lib.hid (show r = (zeroK, 11) by rw [HR.out, if_neg hk])
        clear HR
        go_wp2_with first | refine wpList_store_whole rfl 40 _ _ rfl atCon _ _ _ R6.row rfl rfl rfl rfl (con_one ⟨#[]⟩ none 0 0 0 0) ?_
        refine bodyPost_ret (results_cell_two rfl _ _ _ _ _ _ _ rfl (setRow_heap _ _ _ _ _ _ R6.row) Try.underlying40 rfl (by kernel_rfl) _ rfl) rfl ?_
        exact ret_zero HE.out (R6.put _)

end Go.Proofs.Ytnkbkcmphgejkaa
