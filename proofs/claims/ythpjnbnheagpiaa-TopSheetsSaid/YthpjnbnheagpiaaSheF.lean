/- The answer's Fine, Ints, Same and Great of ballots, and Same of readings. No condition. Printed by gen_shef.py. -/
import Derived.Test.YthpjnbnheagpiaaSheD
import Derived.Test.YthpjnbnheagpiaaSheE
import Derived.Laws.AppendOwnNone
import Derived.Test.YthpjnbnheagpiaaTopE
namespace Go.Proofs.Ythpjnbnheagpiaa
open Go.RowKit Go.Suf
set_option linter.unusedVariables false
set_option linter.unusedSimpArgs false

theorem inI_take {ms : List Int} {i : Nat} {v : Int} : inI (List.take i ms) i v = inI ms i v := by
  unfold inI
  refine decide_eq_decide.2 ⟨fun ⟨k, hk, e⟩ => ⟨k, hk, ?_⟩, fun ⟨k, hk, e⟩ => ⟨k, hk, ?_⟩⟩
  · rw [← e]; simp [gth, List.getD_eq_getElem?_getD, List.getElem?_take, hk]
  · rw [← e]; simp [gth, List.getD_eq_getElem?_getD, List.getElem?_take, hk]
theorem fine_all {kd : Nat} {ms : List Int} {c : Int} (h12 : kd = 1 ∨ kd = 2) (h3 : ¬ kd = 3) (h : ∀ k, k < ms.length → (0 ≤ ith ms k ∧ ith ms k < c) ∧ inI ms k (ith ms k) = false ∧ (kd = 2 → 0 < k → ith ms (k - 1) < ith ms k)) : fineQ kd ms c = true := by
  unfold fineQ
  rw [if_neg h3, if_pos h12, decide_eq_true (fun i hi => (h i hi).1), decide_eq_true (fun i hi => (h i hi).2.1), Bool.and_true, Bool.true_and]
  rcases h12 with h1 | h2
  · rw [decide_eq_true h1]; rfl
  · rw [decide_eq_true (fun i hi h0 => (h i hi).2.2 h2 h0), Bool.or_true]
theorem fine_dup {kd : Nat} {ms : List Int} {c : Int} {i : Nat} (h3 : ¬ kd = 3) (hi : i < ms.length) (h : inI ms i (ith ms i) = true) : fineQ kd ms c = false := by
  unfold fineQ
  rw [if_neg h3]
  split
  · rw [decide_eq_false (p := ∀ i, i < ms.length → inI ms i (ith ms i) = false) (fun hh => by rw [hh i hi] at h; cases h), Bool.and_false]
  · rfl
theorem fine_down {kd : Nat} {ms : List Int} {c : Int} {i : Nat} (h2 : kd = 2) (hi : i < ms.length) (h0 : 0 < i) (h : ¬ ith ms (i - 1) < ith ms i) : fineQ kd ms c = false := by
  unfold fineQ
  rw [if_neg (by omega), if_pos (.inr h2), decide_eq_false (p := kd = 1) (by omega), decide_eq_false (p := ∀ i, i < ms.length → 0 < i → ith ms (i - 1) < ith ms i) (fun hh => h (hh i hi h0))]
  simp

end Go.Proofs.Ythpjnbnheagpiaa
/- The answer's Ints, Same and Great of ballots, Same of readings, Fits, Fill. No condition. Printed by gen_sheg.py. -/
namespace Go.Proofs.Ythpjnbnheagpiaa
open Go.RowKit Go.Suf
set_option linter.unusedVariables false
set_option linter.unusedSimpArgs false

/-- A reading. -/
structure RQ where
  kd : Nat
  ms : List Int
  ov : Int
  ds : List Int
  deriving DecidableEq

theorem Ints_diff {xs ys : List Int} {k : Nat} (h : ¬ ith xs k = ith ys k) : ¬ xs = ys := fun e => h (by rw [e])
set_option maxRecDepth 100000 in
set_option maxHeartbeats 2000000 in
theorem ballGreat_any (w : World) (kd : Nat) (hk : kd < 256) {a_m : Option Addr} {n_m c_m : Nat} {ms : List Int} (h_m : RdI w a_m n_m c_m ms) : Calls Try.prog 7 #[.agg #[.int .u8 ((kd : Nat) : Int), .slice a_m n_m c_m]] w (fun e w' => e = .returned (.bool (decide (60 < n_m))) ∧ Below w.heap.size w w') := by
  have B0 : Below w.heap.size w w := Below.refl _ _
  go_enter Try.func7, Try.ntmps7
  have hnm := h_m.lt
  have hb := below_al w (.cells #[.int .u8 ((kd : Nat) : Int), .slice a_m n_m c_m] 37)
  have B1 := B0.trans (hb.mono B0.size)
  clear hb B0
  have h_b_1 := PRow.new 37 w #[.int .u8 ((kd : Nat) : Int), .slice a_m n_m c_m]
  have k_b_0 := h_b_1.cell 0 _ rfl
  have k_b_1 := h_b_1.cell 1 _ rfl
  go_wp2_with fail
  clear k_b_0 k_b_1
  generalize (w.alloc (.cells #[.int .u8 ((kd : Nat) : Int), .slice a_m n_m c_m] 37)) = w1 at *
  go_ret
  exact ⟨by congr 2; simp; omega, B1⟩

end Go.Proofs.Ythpjnbnheagpiaa
/- The answer's Fill. No condition. Printed by gen_sheh.py. -/
namespace Go.Proofs.Ythpjnbnheagpiaa
open Go.RowKit Go.Suf
set_option linter.unusedVariables false
set_option linter.unusedSimpArgs false

theorem cell_lt {w : World} {p : Addr} {v : Value} (h : w.cell? p = some v) : p.block < w.heap.size := by
  rcases Nat.lt_or_ge p.block w.heap.size with h1 | h1
  · exact h1
  · have : w.heap[p.block]? = none := Array.getElem?_eq_none h1
    simp only [World.cell?, this] at h
    cases h

end Go.Proofs.Ythpjnbnheagpiaa
/- What the laws about sheets lean on: appends and stores as single operations. No condition. Printed by gen_shei.py. -/
namespace Go.Proofs.Ythpjnbnheagpiaa
open Go.RowKit Go.Suf
set_option linter.unusedVariables false
set_option linter.unusedSimpArgs false

theorem op_store_whole {P : Program} {o : Oper} {a : Act} {w : World} {K : Act → World → Prop} {Q : Exit → Act → World → Prop} (t : TypeId) (x y : Operand) (ho : o.op = .store t x y) {m : Nat} (A : AT P t m)
    {b : Nat} (cur vs : Array Value) (e : TypeId) (hg : w.heap[b]? = some (.cells cur e (0, 0))) (hx : a.eval x = .pointer (some ⟨b, 0, none⟩)) (hy : a.eval y = .agg vs) (hm : vs.size = m) (hcur : cur.size = m) (h1 : ∀ u ∈ vs.toList, u.oneCell' = true)
    (h : K (a.put o.dst undef) (w.setRow b vs)) : o.wp P a w K Q := by
  have hst := run_storeCells_at P b 0 e vs.toList 0 cur w hg (by simp; omega) h1
  simp only [Nat.add_zero, List.take_zero, List.nil_append, Array.length_toList] at hst
  rw [List.drop_eq_nil_of_le (by simp; omega), List.append_nil, Array.toArray_toList] at hst
  unfold Oper.wp execOp
  simp only [ho, hx, hy, Instr.storeAt, Instr.sureAddr, Sem.run_bind, Sem.run_pure, Result.andThen_ok, storeVar, A.sizeOf, Value.cells, hm]
  simp only [ne_eq, not_true_eq_false, if_false, hst]
  exact h

/-- The append of one's own row, as one operation. -/
theorem opApp {P : Program} {o : Oper} {a : Act} {w : World} {K : Act → World → Prop} {Q : Exit → Act → World → Prop} (s x : Operand) (t : TypeId)
    (ho : o.op = .call { callee := .builtin .append, args := #[s, x], argTypes := #[t, t] }) {e : TypeId} {z : Value} {bs : Nat} (T : ET P t e z bs)
    (base : Nat) {a1 : Option Addr} {n1 cap1 : Nat} {cs : List Value} (hs : a.eval s = .slice a1 n1 cap1) (hown : w.ownsRow base e 1 (.slice a1 n1 cap1) n1 cs)
    {a2 : Option Addr} {n2 cap2 : Nat} {ds : List Value} (hx : a.eval x = .slice a2 n2 cap2) (hn2 : ds.length = n2) (hsl : Sl w a2 cap2 ds)
    (hm : n1 + n2 ≤ maxLen) (hbytes : (n1 + n2) * bs ≤ 140737488355328) (hbase : base ≤ w.heap.size)
    (h : ∀ a' cap' w', w'.ownsRow base e 1 (.slice a' (n1 + n2) cap') (n1 + n2) (cs ++ ds) → w.grownBy w' (Value.ownBlock (.slice a1 n1 cap1)) → Below base w w' →
      K (a.put o.dst (.slice a' (n1 + n2) cap')) w') : o.wp P a w K Q := by
  obtain ⟨i, hi, hz, h1, hby⟩ := T.info
  have below : ∀ {w'}, w.grownBy w' (Value.ownBlock (.slice a1 n1 cap1)) → Below base w w' := fun hg =>
    (Below.refl base w).grown hg hbase (fun k hk => (hown.lt k hk).1)
  cases a2 with
  | none =>
    have hc := hsl.nil rfl
    subst hc
    have hd : ds = [] := List.eq_nil_of_length_eq_zero (Nat.le_zero.1 hsl.le)
    subst hd
    simp at hn2
    subst hn2
    have hrun := run_append_owned_none (P := P) (w := w) base t o.type e i 1 T.ht hi _ n1 cs hown
    unfold Oper.wp
    simp [execOp, ho, resolve, invoke, builtin, hs, hx, hrun, Result.andThen]
    have h9 := h a1 cap1 w (by simpa using hown) ⟨rfl, rfl, rfl, Nat.le_refl _, fun _ _ _ => rfl⟩ (Below.refl _ _)
    simp only [Nat.add_zero] at h9
    exact h9
  | some ad =>
    refine wp_append_own w s x t ho base e i z 1 bs T.ht hi hz h1 hby T.hz (by decide) _ n1 cs hs hown ad n2 cap2 ds hx (by omega) (hsl.adds rfl) hsl.one hm hbytes hbase ?_
    intro v' w' hown' hg _
    rcases hown'.2 with ⟨hv, hn⟩ | ⟨g, cap', cur, hv, _⟩
    · subst hv
      have : n1 + n2 = 0 := hn
      have h' := h none 0 w' (by rw [this] at hown' ⊢; exact hown') hg (below hg)
      rw [this] at h'
      exact h'
    · subst hv
      exact h _ _ w' hown' hg (below hg)

theorem atBal : AT Try.prog 37 2 := ⟨⟨_, Try.underlying37, rfl⟩, by kernel_rfl⟩
theorem bal_one (k : Int) (a : Option Addr) (n c : Nat) : ∀ u ∈ (#[.int .u8 k, .slice a n c] : Array Value).toList, u.oneCell' = true := by
  intro u hu
  simp at hu
  rcases hu with rfl | rfl <;> rfl
/-- A row is not in a block of another type. -/
theorem own_block_ne {base g : Nat} {e t : TypeId} {w : World} {v : Value} {n : Nat} {xs : List Value} {cs : Array Value} (h : w.ownsRow base e 1 v n xs) (hg : w.heap[g]? = some (.cells cs t (0, 0))) (hne : t ≠ e) : v.ownBlock ≠ some g := by
  rcases h.2 with ⟨rfl, _⟩ | ⟨b, cap, cur, rfl, _, hh, _⟩
  · simp [Value.ownBlock]
  · simp [Value.ownBlock]
    rintro rfl
    rw [hg] at hh
    simp at hh
    exact hne hh.2
theorem PRow.grown {base : Nat} {t e : TypeId} {w w1 w2 : World} {k m : Nat} {cs : Array Value} {v : Value} {vs : List Value} (h : PRow t w w1 k cs) (hne : t ≠ e) (hv : w1.ownsRow base e 1 v m vs) (hg : w1.grownBy w2 v.ownBlock) (hb : Below w.heap.size w1 w2) : PRow t w w2 k cs :=
  ⟨h.below.trans hb, (hg.block k h.lt (fun e2 => own_block_ne hv h.row hne e2.symm)).trans h.row, h.lo, Nat.lt_of_lt_of_le h.lt hb.size⟩
theorem own_setRow {base g : Nat} {e t : TypeId} {w : World} {v : Value} {n : Nat} {xs : List Value} {cs : Array Value} (h : w.ownsRow base e 1 v n xs) (hg : w.heap[g]? = some (.cells cs t (0, 0))) (hne : t ≠ e) (cs' : Array Value) : (w.setRow g cs').ownsRow base e 1 v n xs := by
  refine ⟨h.1, ?_⟩
  rcases h.2 with h2 | ⟨b, c, cur, hv, hb, hh, r⟩
  · exact .inl h2
  · refine .inr ⟨b, c, cur, hv, hb, ?_, r⟩
    have : b ≠ g := by
      rintro rfl
      rw [hg] at hh
      simp at hh
      exact hne hh.2
    exact (setRow_other _ _ _ _ this).trans hh

end Go.Proofs.Ythpjnbnheagpiaa
/- Profiles: New, of, place, what Check asks of a row. Conditions: valid profiles. Printed by gen_topf.py. -/
namespace Go.Proofs.Ythpjnbnheagpiaa
open Go.RowKit Go.Suf
set_option linter.unusedVariables false
set_option linter.unusedSimpArgs false

theorem New_any (w : World) (cn : Int) (hc1 : 1 ≤ cn) (hc2 : cn ≤ 10) (kd : Nat) (hk1 : 1 ≤ kd) (hk2 : kd ≤ 3) :
    Calls Try.prog 30 #[.int .i64 cn, .int .u8 ((kd : Nat) : Int)] w fun e w' => e = .returned (.tuple #[.agg #[.int .i64 cn, .int .u8 ((kd : Nat) : Int), .slice none 0 0], .int .i64 0]) ∧ Below w.heap.size w w' := by
  have R := PRow.new 51 w #[.int .i64 0, .int .u8 0, .slice none 0 0]
  have d1 : decide (cn < 1) = false := decide_eq_false (by omega)
  have d2 : decide (cn > 10) = false := decide_eq_false (by omega)
  have d3 : decide (10 < cn) = false := decide_eq_false (by omega)
  have d4 : decide (((kd : Nat) : Int) < 1) = false := decide_eq_false (by omega)
  have d5 : decide (((kd : Nat) : Int) > 3) = false := decide_eq_false (by omega)
  have d6 : decide (kd < 1) = false := decide_eq_false (by omega)
  have d7 : decide (3 < kd) = false := decide_eq_false (by omega)
  go_enter Try.func30, Try.ntmps30
  go_wp2_with first | refine wpList_store_whole rfl 51 _ _ rfl atPrf _ _ _ R.row rfl rfl rfl rfl (prf_one _ _ _ _ _) ?_
  refine bodyPost_ret (results_cell_two rfl _ _ _ _ _ _ _ rfl (setRow_heap _ _ _ _ _ _ R.row) Try.underlying51 rfl (by kernel_rfl) _ rfl) rfl ?_
  exact ⟨rfl, (R.put _).below⟩
set_option maxRecDepth 100000 in
set_option maxHeartbeats 2000000 in
theorem profOf_any (w : World) {a_r : Option Addr} {n_r c_r : Nat} {rs : List RwQ} (cn : Int) (kd : Nat) (hkd : kd < 256) {a_x : Option Addr} {n_x c_x : Nat} (many : Int) : Calls Try.prog 87 #[.agg #[.int .i64 cn, .int .u8 ((kd : Nat) : Int), .slice a_r n_r c_r], .agg #[.slice a_x n_x c_x, .int .i64 many]] w (fun e w' => e = .returned (.agg #[.int .u8 ((kd : Nat) : Int), .slice a_x n_x c_x]) ∧ Below w.heap.size w w') := by
  have B0 : Below w.heap.size w w := Below.refl _ _
  go_enter Try.func87, Try.ntmps87
  have hb := below_al w (.cells #[.int .i64 cn, .int .u8 ((kd : Nat) : Int), .slice a_r n_r c_r] 51)
  have B1 := B0.trans (hb.mono B0.size)
  clear hb B0
  have h_p_1 := PRow.new 51 w #[.int .i64 cn, .int .u8 ((kd : Nat) : Int), .slice a_r n_r c_r]
  have hb := below_al (w.alloc (.cells #[.int .i64 cn, .int .u8 ((kd : Nat) : Int), .slice a_r n_r c_r] 51)) (.cells #[.slice a_x n_x c_x, .int .i64 many] 92)
  have B2 := B1.trans (hb.mono B1.size)
  have h_p_2 := h_p_1.later hb
  clear hb B1 h_p_1
  have h_r_2 := PRow.new 92 (w.alloc (.cells #[.int .i64 cn, .int .u8 ((kd : Nat) : Int), .slice a_r n_r c_r] 51)) #[.slice a_x n_x c_x, .int .i64 many]
  simp only [World.size_alloc] at h_r_2
  have HOB := Lib.hid B2
  have hb := below_al ((w.alloc (.cells #[.int .i64 cn, .int .u8 ((kd : Nat) : Int), .slice a_r n_r c_r] 51)).alloc (.cells #[.slice a_x n_x c_x, .int .i64 many] 92)) (.cells #[.int .u8 0, .slice none 0 0] 37)
  have B3 := B2.trans (hb.mono B2.size)
  have h_p_3 := h_p_2.later hb
  have h_r_3 := h_r_2.later hb
  clear hb B2 h_p_2 h_r_2
  have h_b_3 := PRow.new 37 ((w.alloc (.cells #[.int .i64 cn, .int .u8 ((kd : Nat) : Int), .slice a_r n_r c_r] 51)).alloc (.cells #[.slice a_x n_x c_x, .int .i64 many] 92)) #[.int .u8 0, .slice none 0 0]
  simp only [World.size_alloc] at h_b_3
  have R := h_b_3
  go_upto_region 1 with fail
  generalize (((w.alloc (.cells #[.int .i64 cn, .int .u8 ((kd : Nat) : Int), .slice a_r n_r c_r] 51)).alloc (.cells #[.slice a_x n_x c_x, .int .i64 many] 92)).alloc (.cells #[.int .u8 0, .slice none 0 0] 37)) = w3 at *
  have R := h_b_3
  have k_p_0 := h_p_3.cell 0 _ rfl
  have k_p_1 := h_p_3.cell 1 _ rfl
  have k_p_2 := h_p_3.cell 2 _ rfl
  have k_r_0 := h_r_3.cell 0 _ rfl
  have k_r_1 := h_r_3.cell 1 _ rfl
  go_wp2_with first | refine wpList_store_whole rfl 37 _ _ rfl atBal _ _ _ R.row rfl rfl rfl rfl (bal_one _ _ _ _) ?_
  clear k_p_0 k_p_1 k_p_2 k_r_0 k_r_1
  refine bodyPost_ret (results_cell_row rfl _ _ _ _ _ _ _ rfl (setRow_heap _ _ _ _ _ _ R.row) Try.underlying37 rfl (by kernel_rfl)) rfl ?_
  exact ⟨rfl, HOB.out.trans ((R.put _).below.mono HOB.out.size)⟩

set_option maxRecDepth 100000 in
set_option maxHeartbeats 2000000 in
theorem placeR_any (w : World) {a_r : Option Addr} {n_r c_r : Nat} {rs : List RwQ} (h_r : RdR w a_r n_r c_r rs) (hn : n_r ≤ 1099511627776) (hR : RiseR rs) (cn : Int) (kd : Nat) (hkd : kd < 256) {a_m : Option Addr} {n_m c_m : Nat} {m : List Int} (h_m : RdI w a_m n_m c_m m) : Calls Try.prog 77 #[.agg #[.int .i64 cn, .int .u8 ((kd : Nat) : Int), .slice a_r n_r c_r], .slice a_m n_m c_m] w (fun e w' => e = .returned (.tuple #[.int .i64 (posR rs m : Nat), .bool (hasR rs m)]) ∧ posR rs m ≤ n_r ∧ Below w.heap.size w w') := by
  have B0 : Below w.heap.size w w := Below.refl _ _
  have h_r_0 := h_r
  have h_m_0 := h_m
  go_enter Try.func77, Try.ntmps77
  have hb := below_al w (.cells #[.int .i64 cn, .int .u8 ((kd : Nat) : Int), .slice a_r n_r c_r] 51)
  have B1 := B0.trans (hb.mono B0.size)
  have h_r_1 := h_r_0.below rowE_lasts hb
  have h_m_1 := h_m_0.below hb
  clear hb B0 h_r_0 h_m_0
  have h_p_1 := PRow.new 51 w #[.int .i64 cn, .int .u8 ((kd : Nat) : Int), .slice a_r n_r c_r]
  have k_p_0 := h_p_1.cell 0 _ rfl
  have k_p_1 := h_p_1.cell 1 _ rfl
  have k_p_2 := h_p_1.cell 2 _ rfl
  go_wp2_with fail
  clear k_p_0 k_p_1 k_p_2
  generalize (w.alloc (.cells #[.int .i64 cn, .int .u8 ((kd : Nat) : Int), .slice a_r n_r c_r] 51)) = w1 at *
  have c := searchR_any w1 h_r_1 hn hR h_m_1
  refine c.mono ?_
  rintro e w2 ⟨rfl, hle, hb⟩
  clear c
  have B2 := B1.trans (hb.mono B1.size)
  have h_r_2 := h_r_1.below rowE_lasts hb
  have h_m_2 := h_m_1.below hb
  have h_p_2 := h_p_1.later hb
  clear hb B1 h_r_1 h_m_1 h_p_1
  go_wp2_with fail
  go_ret2
  exact ⟨rfl, hle, B2⟩

end Go.Proofs.Ythpjnbnheagpiaa
