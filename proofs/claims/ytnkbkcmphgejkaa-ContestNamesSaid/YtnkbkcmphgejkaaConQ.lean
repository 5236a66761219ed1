/- The reference's Read of contests. Printed by gen_conp.py. -/
import Derived.Test.YtnkbkcmphgejkaaConP
namespace Go.Proofs.Ytnkbkcmphgejkaa
open Go.RowKit Go.Suf
set_option linter.unusedVariables false
set_option linter.unusedSimpArgs false

theorem PRow.other {t : TypeId} {w w1 : World} {k : Nat} {cs : Array Value} (h : PRow t w w1 k cs) {p : Addr} (hp : k ≠ p.block) (hl : w.heap.size ≤ p.block) (v : Value) : PRow t w (w1.setCell p v) k cs :=
  ⟨h.below.setCell hl v, by rw [Below.heap_setCell _ _ _ _ hp]; exact h.row, h.lo, by have := h.lt; simpa [World.setCell] using this⟩

theorem PRow.otherR {t : TypeId} {w w1 : World} {k g : Nat} {cs : Array Value} (h : PRow t w w1 k cs) (hl : w.heap.size ≤ g) (hne : k ≠ g) (cs' : Array Value) : PRow t w (w1.setRow g cs') k cs :=
  ⟨below_set h.below hl cs', by rw [setRow_other _ _ _ _ hne]; exact h.row, h.lo, by rw [setRow_size]; exact h.lt⟩

theorem PRow.rebase {t : TypeId} {w1 w2 w3 : World} {k : Nat} {cs : Array Value} (h : PRow t w2 w3 k cs) (hb : Below w1.heap.size w1 w3) (hl : w1.heap.size ≤ w2.heap.size) : PRow t w1 w3 k cs :=
  ⟨hb, h.row, Nat.le_trans hl h.lo, h.lt⟩

end Go.Proofs.Ytnkbkcmphgejkaa
namespace Go.Suf
open Go.RowKit Go.Suf
open Go.Proofs.Ytnkbkcmphgejkaa
set_option linter.unusedVariables false
set_option linter.unusedSimpArgs false
theorem Ow.setC {base k i : Nat} {w : World} {a : Option Addr} {n cap : Nat} {xs : List Nat} {cs : Array Value} (h : Ow .u8 5 base w a n cap xs) (hr : w.heap[k]? = some (.cells cs 40 (0, 0))) (u : Value) : Ow .u8 5 base (w.setCell ⟨k, i, none⟩ u) a n cap xs :=
  ⟨h.len, own_keepE (p := fun t => t ≠ 40) (by decide) (keepE_store hr u) h.own, h.bd⟩
theorem Ow.grownS {base base' : Nat} {w w' : World} {a : Option Addr} {n cap m : Nat} {xs : List Nat} {v : Value} {vs : List Value} (h : Ow .u8 5 base w a n cap xs) (hv : w.ownsRow base' 9 1 v m vs) (hg : w.grownBy w' v.ownBlock) : Ow .u8 5 base w' a n cap xs :=
  ⟨h.len, own_keepE (p := fun t => t ≠ 9) (by decide) (keepE_grown hv hg) h.own, h.bd⟩
end Go.Suf
namespace Go.Proofs.Ytnkbkcmphgejkaa
open Go.RowKit Go.Suf
set_option linter.unusedVariables false
set_option linter.unusedSimpArgs false
theorem cell_at {B : Nat} {w w' : World} {p : Addr} {v : Value} (hb : Below B w w') (hp : p.block < B) (h : w.cell? p = some v) : w'.cell? p = some v := by
  rw [World.cell?_of_block (hb.block _ hp)]; exact h

theorem cell_setC {w : World} {b i k j : Nat} {v : Value} (h : w.cell? ⟨b, i, none⟩ = some v) (hne : b ≠ k) (u : Value) : (w.setCell ⟨k, j, none⟩ u).cell? ⟨b, i, none⟩ = some v := by
  rw [World.cell?_setCell_other _ _ _ _ (by intro e; simp only [Addr.mk.injEq] at e; omega)]; exact h

/-- The append of one's own slice, as one operation of a region. -/
theorem op_app {P : Program} {o : Oper} {a : Act} {w : World} {K : Act → World → Prop} {Q : Exit → Act → World → Prop} (s x : Operand) (t : TypeId)
    (ho : o.op = .call { callee := .builtin .append, args := #[s, x], argTypes := #[t, t] }) {e : TypeId} {z : Value} {bs : Nat} (T : ET P t e z bs)
    (base : Nat) {a1 : Option Addr} {n1 cap1 : Nat} {cs : List Value} (hs : a.eval s = .slice a1 n1 cap1) (hown : w.ownsRow base e 1 (.slice a1 n1 cap1) n1 cs)
    {ad : Addr} {n2 cap2 : Nat} {ds : List Value} (hx : a.eval x = .slice (some ad) n2 cap2) (hn2 : ds.length = n2) (hsl : Sl w (some ad) cap2 ds)
    (hm : n1 + n2 ≤ maxLen) (hbytes : (n1 + n2) * bs ≤ 140737488355328) (hbase : base ≤ w.heap.size)
    (h : ∀ a' cap' w', w'.ownsRow base e 1 (.slice a' (n1 + n2) cap') (n1 + n2) (cs ++ ds) → w.grownBy w' (Value.ownBlock (.slice a1 n1 cap1)) → Below base w w' →
      K (a.put o.dst (.slice a' (n1 + n2) cap')) w') : o.wp P a w K Q := by
  obtain ⟨i, hi, hz, h1, hby⟩ := T.info
  have below : ∀ {w'}, w.grownBy w' (Value.ownBlock (.slice a1 n1 cap1)) → Below base w w' := fun hg =>
    (Below.refl base w).grown hg hbase (fun k hk => (hown.lt k hk).1)
  refine wp_append_own w s x t ho base e i z 1 bs T.ht hi hz h1 hby T.hz (by decide) _ n1 cs hs hown ad n2 cap2 ds hx (by omega) (hsl.adds rfl) hsl.one hm hbytes hbase ?_
  intro v' w' hown' hg _
  rcases hown'.2 with ⟨hv, hn⟩ | ⟨g, cap', cur, hv, _⟩
  · subst hv
    have : n1 + n2 = 0 := hn
    have h' := h none 0 w' (by rw [this] at hown' ⊢; exact hown') hg (below hg)
    rw [this] at h'
    exact h'
  · subst hv
    exact h _ _ w' hown' hg (below hg)

theorem may_ok (q : CQ) : chkK q = 0 ↔ mayC q.nm q.ss (((q.seats : Nat)) : Int) q.rule = true := by
  unfold chkK
  rw [check_may]
  by_cases h1 : 10 < q.ss.length
  · rw [if_pos h1]
    simp [mayC, show ¬ q.ss.length ≤ 10 by omega]
  · rw [if_neg h1]
    by_cases h2 : mayC q.nm q.ss (((q.seats : Nat)) : Int) q.rule = true <;> simp [h2]

set_option maxRecDepth 100000 in
set_option maxHeartbeats 40000000 in
theorem refRead_any (w : World) {a : Option Addr} {n cap : Nat} {xs : List Nat} (h : Rd .u8 w a n cap xs) (hn : n ≤ 1099511627776) :
    Calls Try.prog 31 #[.slice a n cap] w (RetK w (readC xs)) := by
  obtain ⟨r, hr0⟩ : ∃ r, r = readC xs := ⟨_, rfl⟩
  rw [← hr0]
  have HC := Lib.hid (show (splitX xs).1.length ≤ n by rw [← h.len]; exact split_count h.bd)
  have R0 := PRow.new 40 w #[Value.string ⟨#[]⟩, .slice none 0 0, .int .i64 0, .int .u8 0]
  have c := refSplit_any _ (h.below R0.below) hn
  go_enter Try.func31, Try.ntmps31
  go_wp2_with fail
  have hz0 : (w.alloc (.cells #[Value.string ⟨#[]⟩, .slice none 0 0, .int .i64 0, .int .u8 0] 40)).heap.size = w.heap.size + 1 := World.size_alloc _ _
  generalize w.alloc (.cells #[Value.string ⟨#[]⟩, .slice none 0 0, .int .i64 0, .int .u8 0] 40) = wA at *
  refine c.mono ?_
  rintro e w1 ⟨a1, n1, c1, rfl, ho1, hb1⟩
  clear c
  rw [hz0] at ho1
  have R1 := R0.later hb1
  clear R0 hb1 hz0 h
  by_cases hz : (splitX xs).2 = 0
  case neg =>
    have HE := Lib.hid (show r = (zeroK, (splitX xs).2) by rw [hr0, readC, if_neg hz])
    clear hr0
    go_wp2_with (refine wpList_store_whole rfl 40 _ _ rfl atCon _ _ _ R1.row rfl rfl rfl rfl (con_one ⟨#[]⟩ none 0 0 0 0) ?_)
    refine bodyPost_ret (results_cell_two rfl _ _ _ _ _ _ _ rfl (setRow_heap _ _ _ _ _ _ R1.row) Try.underlying40 rfl (by kernel_rfl) _ rfl) rfl ?_
    exact ret_zero HE.out (R1.put _)
  have hr1 : r = fmt (splitX xs).1 := by rw [hr0, readC, if_pos hz]
  rw [hz]
  clear hr0 hz
  generalize (splitX xs).1 = l at *
  have hl := ho1.len
  have hcap := ho1.rd.lt
  by_cases h3 : n1 < 3
  case pos =>
    have HE := Lib.hid (show r = (zeroK, 11) by rw [hr1, fmt, if_pos (.inl (by omega))])
    have d3 : decide ((n1 : Int) < 3) = true := decide_eq_true (by omega)
    clear hr1 hl
    go_wp2_with (refine wpList_store_whole rfl 40 _ _ rfl atCon _ _ _ R1.row rfl rfl rfl rfl (con_one ⟨#[]⟩ none 0 0 0 0) ?_)
    refine bodyPost_ret (results_cell_two rfl _ _ _ _ _ _ _ rfl (setRow_heap _ _ _ _ _ _ R1.row) Try.underlying40 rfl (by kernel_rfl) _ rfl) rfl ?_
    exact ret_zero HE.out (R1.put _)
  have d3 : decide ((n1 : Int) < 3) = false := decide_eq_false (by omega)
  obtain ⟨b, off, q1, m1, k1, rfl, hbb, hc1, ho_1⟩ := ho1.at 1 (by omega)
  obtain ⟨b', off', q0, m0, k0, e0, hbb', hc0, ho_0⟩ := ho1.at 0 (by omega)
  have hr_1 := ho_1.rd
  have hr_0 := ho_0.rd
  obtain ⟨rfl, rfl⟩ : b = b' ∧ off = off' := by simpa using e0
  clear e0
  rw [Nat.add_zero] at hc0
  have hm1 := hr_1.len
  by_cases h2 : m1 = 2
  case neg =>
    have HE := Lib.hid (show r = (zeroK, 11) by rw [hr1, fmt, if_pos (.inr (by omega))])
    have d2 : decide ((m1 : Int) = 2) = false := decide_eq_false (by omega)
    have l1 : (1 : Int) < (n1 : Int) := by omega
    clear hr1 hl hm1
    go_wp2_with (refine wpList_store_whole rfl 40 _ _ rfl atCon _ _ _ R1.row rfl rfl rfl rfl (con_one ⟨#[]⟩ none 0 0 0 0) ?_)
    refine bodyPost_ret (results_cell_two rfl _ _ _ _ _ _ _ rfl (setRow_heap _ _ _ _ _ _ R1.row) Try.underlying40 rfl (by kernel_rfl) _ rfl) rfl ?_
    exact ret_zero HE.out (R1.put _)
  subst h2
  have hnf : ¬ (l.length < 3 ∨ (lth l 1).length ≠ 2) := by omega
  have HR := Lib.hid (show r = if chkK (ofF l) = 0 then (ofF l, 0) else (zeroK, 11) by rw [hr1, fmt, if_neg hnf])
  have l1 : (1 : Int) < (n1 : Int) := by omega
  have l0 : (0 : Int) < (n1 : Int) := by omega
  have l1' : 1 < n1 := by omega
  have l0' : 0 < n1 := by omega
  have HL := Lib.hid hl
  have HM := Lib.hid hm1
  obtain ⟨gb, eb0, hgb, _⟩ := own_block ho_1.own (by omega)
  obtain ⟨bb, boff, rfl, hv0, lv0⟩ := hr_1.cell 0 (by omega)
  obtain ⟨rfl, -⟩ : bb = gb ∧ boff = 0 := by simpa using eb0
  clear eb0
  obtain ⟨bb', boff', eb, hv1, lv1⟩ := hr_1.cell 1 (by omega)
  obtain ⟨rfl, rfl⟩ : bb = bb' ∧ boff = boff' := by simpa using eb
  clear eb
  rw [Nat.add_zero] at hv0
  have lv0 : nth (lth l 1) 0 < 256 := lv0
  have lv1 : nth (lth l 1) 1 < 256 := lv1
  have VS := Lib.hid lv0
  have VR := Lib.hid lv1
  have hs0 : (ofF l).seats = nth (lth l 1) 0 := rfl
  have hs1 : (ofF l).rule = nth (lth l 1) 1 := rfl
  have hs2 : strB (lth l 0) = (ofF l).nm := rfl
  rw [← hs0] at hv0 lv0 VS
  rw [← hs1] at hv1 lv1 VR
  clear hr1 hl hm1 hnf hs0 hs1
  have hcv : ∀ w', Below w1.heap.size w1 w' → Sem.run Try.prog (convert 52 9 (.slice q0 m0 k0)) w' = .ok (.string (ofF l).nm) w' := fun w' hb => by rw [convB (hr_0.below hb), hs2]
  go_upto_region 6 with fail
  refine wp_region_held_drew (S := (fun w' => Sem.run Try.prog (convert 52 9 (.slice q0 m0 k0)) w' = .ok (.string (ofF l).nm) w' ∧ w'.cell? ⟨b, off, none⟩ = some (.slice q0 m0 k0) ∧ w'.cell? ⟨b, off + 1, none⟩ = some (.slice (some ⟨bb, boff, none⟩) 2 k1) ∧ w'.cell? ⟨bb, boff, none⟩ = some (.int .u8 ((ofF l).seats : Nat)) ∧ w'.cell? ⟨bb, boff + 1, none⟩ = some (.int .u8 ((ofF l).rule : Nat)))) (by kernel_rfl) ?_ (fun hHeld => ?_)
  · exact ⟨hcv _ (Below.refl _ _).drew, cell_below (Below.refl _ _).drew hc0, cell_below (Below.refl _ _).drew hc1, cell_below (Below.refl _ _).drew hv0, cell_below (Below.refl _ _).drew hv1⟩
  have D0 : Below w1.heap.size w1 w1.drew := (Below.refl _ _).drew
  have ho1 := ho1.below D0
  have hwk := R1.lt
  have R1 := R1.drew
  have hzd : w1.drew.heap.size = w1.heap.size := rfl
  generalize w1.drew = wd at *
  refine wpAnyH_take (i := 0) (oi := ?oir5_0) (v := ?vr5_0) ?hir5_0 (by kernel_rfl) (by kernel_rfl) (by kernel_rfl) ?hqr5_0 ?hyr5_0 (by assumption) ?restr5_0
  case hir5_0 => simp only [List.getElem?_toArray, List.getElem?_cons_succ, List.getElem?_cons_zero]; rfl
  case hqr5_0 => exact fun _ _ _ h => h
  case hyr5_0 => (refine Or.inl ⟨by rfl, ?_⟩; intro w hSw; (try dsimp only at hSw); go_simp; all_goals with_reducible rfl)
  try simp only [Act.put, List.setIfInBounds_toArray, List.set_cons_zero, List.set_cons_succ]
  refine wpAnyH_take (i := 1) (oi := ?oir5_1) (v := ?vr5_1) ?hir5_1 (by kernel_rfl) (by kernel_rfl) (by kernel_rfl) ?hqr5_1 ?hyr5_1 (by assumption) ?restr5_1
  case hir5_1 => simp only [List.getElem?_toArray, List.getElem?_cons_succ, List.getElem?_cons_zero]; rfl
  case hqr5_1 => exact fun _ _ _ h => h
  case hyr5_1 => (refine Or.inl ⟨by rfl, ?_⟩; intro w hSw; (try dsimp only at hSw); go_simp; all_goals with_reducible rfl)
  try simp only [Act.put, List.setIfInBounds_toArray, List.set_cons_zero, List.set_cons_succ]
  refine wpAnyH_take (i := 2) (oi := ?oir5_2) (v := ?vr5_2) ?hir5_2 (by kernel_rfl) (by kernel_rfl) (by kernel_rfl) ?hqr5_2 ?hyr5_2 (by assumption) ?restr5_2
  case hir5_2 => simp only [List.getElem?_toArray, List.getElem?_cons_succ, List.getElem?_cons_zero]; rfl
  case hqr5_2 => exact fun _ _ _ h => h
  case hyr5_2 => (refine Or.inl ⟨by rfl, ?_⟩; intro w hSw; (try dsimp only at hSw); go_simp; all_goals with_reducible rfl)
  try simp only [Act.put, List.setIfInBounds_toArray, List.set_cons_zero, List.set_cons_succ]
  refine wpAnyH_take (i := 3) (oi := ?oir5_3) (v := ?vr5_3) ?hir5_3 (by kernel_rfl) (by kernel_rfl) (by kernel_rfl) ?hqr5_3 ?hyr5_3 (by assumption) ?restr5_3
  case hir5_3 => simp only [List.getElem?_toArray, List.getElem?_cons_succ, List.getElem?_cons_zero]; rfl
  case hqr5_3 => exact fun _ _ _ h => h
  case hyr5_3 => (refine Or.inl ⟨by rfl, ?_⟩; intro w hSw; (try dsimp only at hSw); go_simp; all_goals with_reducible rfl)
  try simp only [Act.put, List.setIfInBounds_toArray, List.set_cons_zero, List.set_cons_succ]
  refine wpAnyH_take (i := 4) (oi := ?oir5_4) (v := ?vr5_4) ?hir5_4 (by kernel_rfl) (by kernel_rfl) (by kernel_rfl) ?hqr5_4 ?hyr5_4 (by assumption) ?restr5_4
  case hir5_4 => simp only [List.getElem?_toArray, List.getElem?_cons_succ, List.getElem?_cons_zero]; rfl
  case hqr5_4 => exact fun _ _ _ h => h
  case hyr5_4 => (refine Or.inl ⟨by rfl, ?_⟩; intro w hSw; (try dsimp only at hSw); go_simp; all_goals with_reducible rfl)
  try simp only [Act.put, List.setIfInBounds_toArray, List.set_cons_zero, List.set_cons_succ]
  refine wpAnyH_take (i := 5) (oi := ?oir5_5) (v := ?vr5_5) ?hir5_5 (by kernel_rfl) (by kernel_rfl) (by kernel_rfl) ?hqr5_5 ?hyr5_5 (by assumption) ?restr5_5
  case hir5_5 => simp only [List.getElem?_toArray, List.getElem?_cons_succ, List.getElem?_cons_zero]; rfl
  case hqr5_5 => exact fun _ _ _ h => h
  case hyr5_5 => (refine Or.inl ⟨by rfl, ?_⟩; intro w hSw; (try dsimp only at hSw); go_simp; all_goals with_reducible rfl)
  try simp only [Act.put, List.setIfInBounds_toArray, List.set_cons_zero, List.set_cons_succ]
  refine wpAnyH_take (i := 6) (oi := ?oir5_6) (v := ?vr5_6) ?hir5_6 (by kernel_rfl) (by kernel_rfl) (by kernel_rfl) ?hqr5_6 ?hyr5_6 (by assumption) ?restr5_6
  case hir5_6 => simp only [List.getElem?_toArray, List.getElem?_cons_succ, List.getElem?_cons_zero]; rfl
  case hqr5_6 => exact fun _ _ _ h => h
  case hyr5_6 => (refine Or.inl ⟨by rfl, ?_⟩; intro w hSw; (try dsimp only at hSw); go_simp; all_goals with_reducible rfl)
  try simp only [Act.put, List.setIfInBounds_toArray, List.set_cons_zero, List.set_cons_succ]
  refine wpAnyH_take (i := 7) (oi := ?oir5_7) (v := ?vr5_7) ?hir5_7 (by kernel_rfl) (by kernel_rfl) (by kernel_rfl) ?hqr5_7 ?hyr5_7 (by assumption) ?restr5_7
  case hir5_7 => simp only [List.getElem?_toArray, List.getElem?_cons_succ, List.getElem?_cons_zero]; rfl
  case hqr5_7 => exact fun _ _ _ h => h
  case hyr5_7 => (refine Or.inl ⟨by rfl, ?_⟩; intro w hSw; (try dsimp only at hSw); go_simp; all_goals with_reducible rfl)
  try simp only [Act.put, List.setIfInBounds_toArray, List.set_cons_zero, List.set_cons_succ]
  refine wpAnyH_take (i := 8) (oi := ?oir5_8) (v := ?vr5_8) ?hir5_8 (by kernel_rfl) (by kernel_rfl) (by kernel_rfl) ?hqr5_8 ?hyr5_8 (by assumption) ?restr5_8
  case hir5_8 => simp only [List.getElem?_toArray, List.getElem?_cons_succ, List.getElem?_cons_zero]; rfl
  case hqr5_8 => exact fun _ _ _ h => h
  case hyr5_8 => (refine Or.inl ⟨by rfl, ?_⟩; intro w hSw; (try dsimp only at hSw); go_simp; all_goals with_reducible rfl)
  try simp only [Act.put, List.setIfInBounds_toArray, List.set_cons_zero, List.set_cons_succ]
  refine wpAnyH_take (i := 9) (oi := ?oir5_9) (v := ?vr5_9) ?hir5_9 (by kernel_rfl) (by kernel_rfl) (by kernel_rfl) ?hqr5_9 ?hyr5_9 (by assumption) ?restr5_9
  case hir5_9 => simp only [List.getElem?_toArray, List.getElem?_cons_succ, List.getElem?_cons_zero]; rfl
  case hqr5_9 => exact fun _ _ _ h => h
  case hyr5_9 => (refine Or.inl ⟨by rfl, ?_⟩; intro w hSw; (try dsimp only at hSw); go_simp; all_goals with_reducible rfl)
  try simp only [Act.put, List.setIfInBounds_toArray, List.set_cons_zero, List.set_cons_succ]
  refine wpAnyH_take (i := 10) (oi := ?oir5_10) (v := ?vr5_10) ?hir5_10 (by kernel_rfl) (by kernel_rfl) (by kernel_rfl) ?hqr5_10 ?hyr5_10 (by assumption) ?restr5_10
  case hir5_10 => simp only [List.getElem?_toArray, List.getElem?_cons_succ, List.getElem?_cons_zero]; rfl
  case hqr5_10 => exact fun _ _ _ h => h
  case hyr5_10 => (refine Or.inl ⟨by rfl, ?_⟩; intro w hSw; (try dsimp only at hSw); go_simp; all_goals with_reducible rfl)
  try simp only [Act.put, List.setIfInBounds_toArray, List.set_cons_zero, List.set_cons_succ]
  refine wpAnyH_take (i := 11) (oi := ?oir5_11) (v := ?vr5_11) ?hir5_11 (by kernel_rfl) (by kernel_rfl) (by kernel_rfl) ?hqr5_11 ?hyr5_11 (by assumption) ?restr5_11
  case hir5_11 => simp only [List.getElem?_toArray, List.getElem?_cons_succ, List.getElem?_cons_zero]; rfl
  case hqr5_11 => exact fun _ _ _ h => h
  case hyr5_11 => (refine Or.inl ⟨by rfl, ?_⟩; intro w hSw; (try dsimp only at hSw); go_simp; all_goals with_reducible rfl)
  try simp only [Act.put, List.setIfInBounds_toArray, List.set_cons_zero, List.set_cons_succ]
  refine wpAnyH_take (i := 12) (oi := ?oir5_12) (v := ?vr5_12) ?hir5_12 (by kernel_rfl) (by kernel_rfl) (by kernel_rfl) ?hqr5_12 ?hyr5_12 (by assumption) ?restr5_12
  case hir5_12 => simp only [List.getElem?_toArray, List.getElem?_cons_succ, List.getElem?_cons_zero]; rfl
  case hqr5_12 => exact fun _ _ _ h => h
  case hyr5_12 => (refine Or.inl ⟨by rfl, ?_⟩; intro w hSw; (try dsimp only at hSw); go_simp; all_goals with_reducible rfl)
  try simp only [Act.put, List.setIfInBounds_toArray, List.set_cons_zero, List.set_cons_succ]
  refine wpAnyH_take (i := 13) (oi := ?oir5_13) (v := ?vr5_13) ?hir5_13 (by kernel_rfl) (by kernel_rfl) (by kernel_rfl) ?hqr5_13 ?hyr5_13 (by assumption) ?restr5_13
  case hir5_13 => simp only [List.getElem?_toArray, List.getElem?_cons_succ, List.getElem?_cons_zero]; rfl
  case hqr5_13 => exact fun _ _ _ h => h
  case hyr5_13 => (refine Or.inl ⟨by rfl, ?_⟩; intro w hSw; (try dsimp only at hSw); go_simp; all_goals with_reducible rfl)
  try simp only [Act.put, List.setIfInBounds_toArray, List.set_cons_zero, List.set_cons_succ]
  refine wpAnyH_take (i := 14) (oi := ?oir5_14) (v := ?vr5_14) ?hir5_14 (by kernel_rfl) (by kernel_rfl) (by kernel_rfl) ?hqr5_14 ?hyr5_14 (by assumption) ?restr5_14
  case hir5_14 => simp only [List.getElem?_toArray, List.getElem?_cons_succ, List.getElem?_cons_zero]; rfl
  case hqr5_14 => exact fun _ _ _ h => h
  case hyr5_14 => (refine Or.inl ⟨by rfl, ?_⟩; intro w hSw; (try dsimp only at hSw); go_simp; all_goals with_reducible rfl)
  try simp only [Act.put, List.setIfInBounds_toArray, List.set_cons_zero, List.set_cons_succ]
  refine wpAnyH_take (i := 15) (oi := ?oir5_15) (v := ?vr5_15) ?hir5_15 (by kernel_rfl) (by kernel_rfl) (by kernel_rfl) ?hqr5_15 ?hyr5_15 (by assumption) ?restr5_15
  case hir5_15 => simp only [List.getElem?_toArray, List.getElem?_cons_succ, List.getElem?_cons_zero]; rfl
  case hqr5_15 => exact fun _ _ _ h => h
  case hyr5_15 => (refine Or.inl ⟨by rfl, ?_⟩; intro w hSw; (try dsimp only at hSw); go_simp; all_goals with_reducible rfl)
  try simp only [Act.put, List.setIfInBounds_toArray, List.set_cons_zero, List.set_cons_succ]
  simp only [wrap_in (show -9223372036854775808 ≤ (((ofF l).seats : Nat) : Int) by omega) (show (((ofF l).seats : Nat) : Int) ≤ 9223372036854775807 by omega)]
  refine wpAnyH_ready (rs := [16]) (by kernel_rfl) (by simp) ?_
  refine AllReadyH.cons (o := ?ob6_16) ?hob6_16 (fun K hK => ?kb6_16) AllReadyH.nil
  case hob6_16 => simp only [List.getElem?_toArray, List.getElem?_cons_succ, List.getElem?_cons_zero]; rfl
  go_simp
  refine hK.out _ _ ?_ (fun hHeld => ?_)
  · exact ⟨hcv _ (D0.trans ((below_al wd _).mono D0.size)), cell_below (D0.trans ((below_al wd _).mono D0.size)) hc0, cell_below (D0.trans ((below_al wd _).mono D0.size)) hc1, cell_below (D0.trans ((below_al wd _).mono D0.size)) hv0, cell_below (D0.trans ((below_al wd _).mono D0.size)) hv1⟩
  clear hK K
  try simp only [Act.put, List.setIfInBounds_toArray, List.set_cons_zero, List.set_cons_succ]
  have RA := PRow.new 40 wd #[Value.string ⟨#[]⟩, .slice none 0 0, .int .i64 0, .int .u8 0]
  have ho1 := ho1.below RA.below
  have R1 := R1.later RA.below
  have D1 := D0.trans ((below_al wd (.cells #[Value.string ⟨#[]⟩, .slice none 0 0, .int .i64 0, .int .u8 0] 40)).mono D0.size)
  have hzA : (wd.alloc (.cells #[Value.string ⟨#[]⟩, .slice none 0 0, .int .i64 0, .int .u8 0] 40)).heap.size = wd.heap.size + 1 := World.size_alloc _ _
  generalize wd.alloc (.cells #[Value.string ⟨#[]⟩, .slice none 0 0, .int .i64 0, .int .u8 0] 40) = wB at *
  rw [hzd] at RA hzA
  refine wpAnyH_ready (rs := [17]) (by kernel_rfl) (by simp) ?_
  refine AllReadyH.cons (o := ?ob7_17) ?hob7_17 (fun K hK => ?kb7_17) AllReadyH.nil
  case hob7_17 => simp only [List.getElem?_toArray, List.getElem?_cons_succ, List.getElem?_cons_zero]; rfl
  rw [if_pos (by rfl)]
  refine op_store_whole 40 _ _ rfl atCon _ #[.string (ofF l).nm, .slice none 0 0, .int .i64 ((ofF l).seats : Nat), .int .u8 ((ofF l).rule : Nat)] _ RA.row rfl rfl rfl rfl (con_one _ _ _ _ _ _) ?_
  refine hK.out _ _ ?_ (fun hHeld => ?_)
  · exact ⟨hcv _ (below_set D1 (Nat.le_refl _) _), cell_below (below_set D1 (Nat.le_refl _) _) hc0, cell_below (below_set D1 (Nat.le_refl _) _) hc1, cell_below (below_set D1 (Nat.le_refl _) _) hv0, cell_below (below_set D1 (Nat.le_refl _) _) hv1⟩
  clear hK K
  try simp only [Act.put, List.setIfInBounds_toArray, List.set_cons_zero, List.set_cons_succ]
  refine wpAnyH_done (by kernel_rfl) ?_ _
  clear hHeld
  have hbk : b < w1.heap.size := World.block_lt_of_cell? _ _ hc0
  have hoL := ho1.setR RA.row #[.string (ofF l).nm, .slice none 0 0, .int .i64 ((ofF l).seats : Nat), .int .u8 ((ofF l).rule : Nat)]
  have R1 := R1.otherR (k := w.heap.size) (show w.heap.size ≤ w1.heap.size by omega) (show w.heap.size ≠ w1.heap.size by omega) #[.string (ofF l).nm, .slice none 0 0, .int .i64 ((ofF l).seats : Nat), .int .u8 ((ofF l).rule : Nat)]
  have RR : PRow 40 w1 _ w1.heap.size _ := (RA.put #[.string (ofF l).nm, .slice none 0 0, .int .i64 ((ofF l).seats : Nat), .int .u8 ((ofF l).rule : Nat)]).rebase (below_set D1 (Nat.le_refl _) _) (Nat.le_of_eq hzd.symm)
  have hmx : n1 ≤ 1099511627776 := by have := HC.out; have := ho1.len; omega
  have hhc : n1 ≤ c1 := by obtain ⟨vs, hv1, hv2, _⟩ := hoL.rd.row; have := hv2.le; omega
  have LV0 := Lib.hid lv0
  have LV1 := Lib.hid lv1
  have HL := Lib.hid ho1.len
  clear hcv hc0 hc1 hv0 hv1 VS VR lv0 lv1 D0 D1 ho_0 ho_1 hr_0 hr_1 ho1 RA hzA
  obtain ⟨k2, hk2⟩ : ∃ k2, w1.heap.size = k2 := ⟨_, rfl⟩
  rw [hk2] at RR hoL R1 hbk hwk ⊢
  generalize wB.setRow k2 #[.string (ofF l).nm, .slice none 0 0, .int .i64 ((ofF l).seats : Nat), .int .u8 ((ofF l).rule : Nat)] = w2 at *
  clear hzd
  have l2 : 2 < n1 := by omega
  have hs0 : OwS 9 (k2 + 1) w2 none 0 0 (((l.drop 2).take 0).map strB) := OwS.nil _ _ _
  clear hcap HM d3 l1 l0 l1' l0'
  go_wp2_with fail
  go_loopw [7] (fun j wr => ∃ i t a' c', t = 2 + i ∧ t ≤ n1 ∧ j = .int .i64 (t : Nat) ∧ PRow 40 w wr w.heap.size #[Value.string ⟨#[]⟩, .slice none 0 0, .int .i64 0, .int .u8 0] ∧ PRow 40 w1 wr k2 #[.string (ofF l).nm, .slice a' i c', .int .i64 ((ofF l).seats : Nat), .int .u8 ((ofF l).rule : Nat)] ∧ OwS 9 (k2 + 1) wr a' i c' (((l.drop 2).take i).map strB) ∧ OwL (w.heap.size + 1) wr (some ⟨b, off, none⟩) n1 c1 l) (fun j _ => n1 - (intOf j).toNat)
  case atStart => exact ⟨0, 2, none, 0, rfl, by omega, rfl, R1, RR, hs0, hoL⟩
  clear R1 RR hs0 hoL
  case round =>
    rename_i wr _
    obtain ⟨i, t, a', c', ht, htn, rfl, R1, RA, hs, hoL⟩ := hrel
    by_cases hlt : t < n1
    case pos =>
      have hoLw := hoL.at t (by omega)
      obtain ⟨b2, off2, q, mq, kq, e2, hb2, hc2, ho2⟩ := hoLw
      obtain ⟨rfl, rfl⟩ : b = b2 ∧ off = off2 := by simpa using e2
      clear e2
      have HT := Lib.hid ht
      clear ht
      have hlw : ((t : Nat) : Int) < (n1 : Int) := by omega
      have hld : decide (((t : Nat) : Int) < (n1 : Int)) = true := decide_eq_true hlw
      go_upto_region 10 with fail
      refine wp_region_held_drew (S := (fun w' => w'.cell? ⟨b, off + t, none⟩ = some (.slice q mq kq) ∧ Sem.run Try.prog (convert 52 9 (.slice q mq kq)) w' = .ok (.string (strB (lth l t))) w')) (by kernel_rfl) ?_ (fun hHeld => ?_)
      · exact ⟨cell_below (Below.refl _ _).drew hc2, convB (ho2.below (Below.refl _ _).drew).rd⟩
      have D0 : Below wr.heap.size wr wr.drew := (Below.refl _ _).drew
      have R1 := R1.drew
      have RA := RA.drew
      have hs := hs.below D0
      have hoL := hoL.below D0
      have ho2 := ho2.below D0
      have hc2 := cell_below D0 hc2
      clear D0
      generalize wr.drew = wd at *
      have k1 := RA.cell 1 _ rfl
      have HS := Lib.hid hs.len
      have hcap := hs.rd.lt
      have hown0 := hs.own
      have hkd := RA.lt
      refine wpAnyH_take (i := 0) (oi := ?oir14_0) (v := ?vr14_0) ?hir14_0 (by kernel_rfl) (by kernel_rfl) (by kernel_rfl) ?hqr14_0 ?hyr14_0 (by assumption) ?restr14_0
      case hir14_0 => simp only [List.getElem?_toArray, List.getElem?_cons_succ, List.getElem?_cons_zero]; rfl
      case hqr14_0 => exact fun _ _ _ h => h
      case hyr14_0 => (refine Or.inl ⟨by rfl, ?_⟩; intro w hSw; (try dsimp only at hSw); go_simp; all_goals with_reducible rfl)
      try simp only [Act.put, List.setIfInBounds_toArray, List.set_cons_zero, List.set_cons_succ]
      refine wpAnyH_take (i := 2) (oi := ?oir14_2) (v := ?vr14_2) ?hir14_2 (by kernel_rfl) (by kernel_rfl) (by kernel_rfl) ?hqr14_2 ?hyr14_2 (by assumption) ?restr14_2
      case hir14_2 => simp only [List.getElem?_toArray, List.getElem?_cons_succ, List.getElem?_cons_zero]; rfl
      case hqr14_2 => exact fun _ _ _ h => h
      case hyr14_2 => (refine Or.inl ⟨by rfl, ?_⟩; intro w hSw; (try dsimp only at hSw); go_simp; all_goals with_reducible rfl)
      try simp only [Act.put, List.setIfInBounds_toArray, List.set_cons_zero, List.set_cons_succ]
      refine wpAnyH_take (i := 3) (oi := ?oir14_3) (v := ?vr14_3) ?hir14_3 (by kernel_rfl) (by kernel_rfl) (by kernel_rfl) ?hqr14_3 ?hyr14_3 (by assumption) ?restr14_3
      case hir14_3 => simp only [List.getElem?_toArray, List.getElem?_cons_succ, List.getElem?_cons_zero]; rfl
      case hqr14_3 => exact fun _ _ _ h => h
      case hyr14_3 => (refine Or.inl ⟨by rfl, ?_⟩; intro w hSw; (try dsimp only at hSw); go_simp; all_goals with_reducible rfl)
      try simp only [Act.put, List.setIfInBounds_toArray, List.set_cons_zero, List.set_cons_succ]
      refine wpAnyH_take (i := 4) (oi := ?oir14_4) (v := ?vr14_4) ?hir14_4 (by kernel_rfl) (by kernel_rfl) (by kernel_rfl) ?hqr14_4 ?hyr14_4 (by assumption) ?restr14_4
      case hir14_4 => simp only [List.getElem?_toArray, List.getElem?_cons_succ, List.getElem?_cons_zero]; rfl
      case hqr14_4 => exact fun _ _ _ h => h
      case hyr14_4 => (refine Or.inl ⟨by rfl, ?_⟩; intro w hSw; (try dsimp only at hSw); go_simp; all_goals with_reducible rfl)
      try simp only [Act.put, List.setIfInBounds_toArray, List.set_cons_zero, List.set_cons_succ]
      refine wpAnyH_take (i := 5) (oi := ?oir14_5) (v := ?vr14_5) ?hir14_5 (by kernel_rfl) (by kernel_rfl) (by kernel_rfl) ?hqr14_5 ?hyr14_5 (by assumption) ?restr14_5
      case hir14_5 => simp only [List.getElem?_toArray, List.getElem?_cons_succ, List.getElem?_cons_zero]; rfl
      case hqr14_5 => exact fun _ _ _ h => h
      case hyr14_5 => (refine Or.inl ⟨by rfl, ?_⟩; intro w hSw; (try dsimp only at hSw); go_simp; all_goals with_reducible rfl)
      try simp only [Act.put, List.setIfInBounds_toArray, List.set_cons_zero, List.set_cons_succ]
      refine wpAnyH_take (i := 6) (oi := ?oir14_6) (v := ?vr14_6) ?hir14_6 (by kernel_rfl) (by kernel_rfl) (by kernel_rfl) ?hqr14_6 ?hyr14_6 (by assumption) ?restr14_6
      case hir14_6 => simp only [List.getElem?_toArray, List.getElem?_cons_succ, List.getElem?_cons_zero]; rfl
      case hqr14_6 => exact fun _ _ _ h => h
      case hyr14_6 => (refine Or.inl ⟨by rfl, ?_⟩; intro w hSw; (try dsimp only at hSw); go_simp; all_goals with_reducible rfl)
      try simp only [Act.put, List.setIfInBounds_toArray, List.set_cons_zero, List.set_cons_succ]
      refine wpAnyH_ready (rs := [1, 7]) (by kernel_rfl) (by simp) ?_
      refine (AllReadyH.cons (o := ?ob15_1) ?hob15_1 (fun K hK => ?kb15_1) (AllReadyH.cons (o := ?ob15_7) ?hob15_7 (fun K hK => ?kb15_7) AllReadyH.nil))
      case hob15_1 => simp only [List.getElem?_toArray, List.getElem?_cons_succ, List.getElem?_cons_zero]; rfl
      case hob15_7 => simp only [List.getElem?_toArray, List.getElem?_cons_succ, List.getElem?_cons_zero]; rfl
      case kb15_1 =>
        go_simp
        refine hK.out _ _ ?_ (fun hHeld => ?_)
        · exact hHeld
        clear hK K
        try simp only [Act.put, List.setIfInBounds_toArray, List.set_cons_zero, List.set_cons_succ]
        refine wpAnyH_ready (rs := [7]) (by kernel_rfl) (by simp) ?_
        refine (AllReadyH.cons (o := ?ob10_7) ?hob10_7 (fun K hK => ?kb10_7) AllReadyH.nil)
        case hob10_7 => simp only [List.getElem?_toArray, List.getElem?_cons_succ, List.getElem?_cons_zero]; rfl
        case kb10_7 =>
          go_simp
          refine hK.out _ _ ?_ (fun hHeld => ?_)
          · exact ⟨cell_below (below_al wd _) hc2, convB (ho2.below (below_al wd _)).rd⟩
          clear hK K
          try simp only [Act.put, List.setIfInBounds_toArray, List.set_cons_zero, List.set_cons_succ]
          refine wpAnyH_ready (rs := [8]) (by kernel_rfl) (by simp) ?_
          refine (AllReadyH.cons (o := ?ob9_8) ?hob9_8 (fun K hK => ?kb9_8) AllReadyH.nil)
          case hob9_8 => simp only [List.getElem?_toArray, List.getElem?_cons_succ, List.getElem?_cons_zero]; rfl
          case kb9_8 =>
            rw [if_pos (by rfl)]
            refine op_app _ _ 38 rfl etS (k2 + 1) rfl (hown0.alloc _) rfl rfl (sl_new wd _ 9 rfl) (by have := HT.out; unfold maxLen; omega) (by have := HT.out; omega) (by simp; omega) ?_
            intro a5 c5 w5 hown5 hg5 hb5
            have RA5 := (RA.later (below_al wd _)).keep hb5 (by omega)
            have R15 := (R1.later (below_al wd _)).keep hb5 (by omega)
            have hoL5 := (hoL.below (below_al wd _)).grown (hown0.alloc _) hg5
            have ho5 := (ho2.below (below_al wd _)).grownS (hown0.alloc _) hg5
            have hc5 := cell_at hb5 (show b < k2 + 1 by omega) (cell_below (below_al wd _) hc2)
            have f5 := RA5.free 1
            have k5 := RA5.cell 1 _ rfl
            refine hK.out _ _ ?_ (fun hHeld => ?_)
            · exact ⟨hc5, convB ho5.rd⟩
            clear hK K
            try simp only [Act.put, List.setIfInBounds_toArray, List.set_cons_zero, List.set_cons_succ]
            refine wpAnyH_take (i := 9) (oi := ?oir8_9) (v := ?vr8_9) ?hir8_9 (by kernel_rfl) (by kernel_rfl) (by kernel_rfl) ?hqr8_9 ?hyr8_9 (by assumption) ?restr8_9
            case hir8_9 => simp only [List.getElem?_toArray, List.getElem?_cons_succ, List.getElem?_cons_zero]; rfl
            case hqr8_9 => exact fun _ _ _ h => h
            case hyr8_9 => (refine Or.inl ⟨by rfl, ?_⟩; intro w hSw; (try dsimp only at hSw); go_simp; all_goals with_reducible rfl)
            try simp only [Act.put, List.setIfInBounds_toArray, List.set_cons_zero, List.set_cons_succ]
            refine wpAnyH_ready (rs := [10]) (by kernel_rfl) (by simp) ?_
            refine (AllReadyH.cons (o := ?ob8_10) ?hob8_10 (fun K hK => ?kb8_10) AllReadyH.nil)
            case hob8_10 => simp only [List.getElem?_toArray, List.getElem?_cons_succ, List.getElem?_cons_zero]; rfl
            case kb8_10 =>
              go_simp
              refine hK.out _ _ ?_ (fun hHeld => ?_)
              · exact ⟨cell_setC hc5 (by omega) _, convB (ho5.setC RA5.row _).rd⟩
              clear hK K
              try simp only [Act.put, List.setIfInBounds_toArray, List.set_cons_zero, List.set_cons_succ]
              refine wpAnyH_done (by kernel_rfl) ?_ _
              go_wp2_with fail
              go_roundw
              case rel =>
                have ht := HT.out
                have hln : i < (l.drop 2).length := by have := HL.out; simp; omega
                have ht' : ((l.drop 2).take (i + 1)).map strB = ((l.drop 2).take i).map strB ++ [strB (lth l t)] := by
                  rw [List.take_succ_eq_append_getElem hln, List.map_append]
                  simp [lth, List.getD_eq_getElem?_getD, ht, show 2 + i < l.length by have := HL.out; omega]
                have hs5 : OwS 9 (k2 + 1) w5 a5 (i + 1) c5 (((l.drop 2).take (i + 1)).map strB) := by
                  refine ⟨by rw [ht', List.length_append, hs.len]; rfl, ?_⟩
                  rw [ht']
                  simpa [strs] using hown5
                exact ⟨i + 1, t + 1, a5, c5, by omega, by omega, by go_num, R15.other (p := ⟨k2, 1, none⟩) (by simp; omega) (by simp; omega) _, by simpa using RA5.set 1 (.slice a5 (i + 1) c5), hs5.setC (by omega) _, hoL5.setC RA5.row _⟩
              case measure => simp [intOf]; omega
      case kb15_7 =>
        go_simp
        refine hK.out _ _ ?_ (fun hHeld => ?_)
        · exact ⟨cell_below (below_al wd _) hc2, convB (ho2.below (below_al wd _)).rd⟩
        clear hK K
        try simp only [Act.put, List.setIfInBounds_toArray, List.set_cons_zero, List.set_cons_succ]
        have k1 := cell_below (below_al wd (.cells #[Value.string (strB (lth l t))] 9)) k1
        refine wpAnyH_ready (rs := [1]) (by kernel_rfl) (by simp) ?_
        refine (AllReadyH.cons (o := ?ob13_1) ?hob13_1 (fun K hK => ?kb13_1) AllReadyH.nil)
        case hob13_1 => simp only [List.getElem?_toArray, List.getElem?_cons_succ, List.getElem?_cons_zero]; rfl
        case kb13_1 =>
          go_simp
          refine hK.out _ _ ?_ (fun hHeld => ?_)
          · exact hHeld
          clear hK K
          try simp only [Act.put, List.setIfInBounds_toArray, List.set_cons_zero, List.set_cons_succ]
          refine wpAnyH_ready (rs := [8]) (by kernel_rfl) (by simp) ?_
          refine (AllReadyH.cons (o := ?ob12_8) ?hob12_8 (fun K hK => ?kb12_8) AllReadyH.nil)
          case hob12_8 => simp only [List.getElem?_toArray, List.getElem?_cons_succ, List.getElem?_cons_zero]; rfl
          case kb12_8 =>
            rw [if_pos (by rfl)]
            refine op_app _ _ 38 rfl etS (k2 + 1) rfl (hown0.alloc _) rfl rfl (sl_new wd _ 9 rfl) (by have := HT.out; unfold maxLen; omega) (by have := HT.out; omega) (by simp; omega) ?_
            intro a5 c5 w5 hown5 hg5 hb5
            have RA5 := (RA.later (below_al wd _)).keep hb5 (by omega)
            have R15 := (R1.later (below_al wd _)).keep hb5 (by omega)
            have hoL5 := (hoL.below (below_al wd _)).grown (hown0.alloc _) hg5
            have ho5 := (ho2.below (below_al wd _)).grownS (hown0.alloc _) hg5
            have hc5 := cell_at hb5 (show b < k2 + 1 by omega) (cell_below (below_al wd _) hc2)
            have f5 := RA5.free 1
            have k5 := RA5.cell 1 _ rfl
            refine hK.out _ _ ?_ (fun hHeld => ?_)
            · exact ⟨hc5, convB ho5.rd⟩
            clear hK K
            try simp only [Act.put, List.setIfInBounds_toArray, List.set_cons_zero, List.set_cons_succ]
            refine wpAnyH_take (i := 9) (oi := ?oir11_9) (v := ?vr11_9) ?hir11_9 (by kernel_rfl) (by kernel_rfl) (by kernel_rfl) ?hqr11_9 ?hyr11_9 (by assumption) ?restr11_9
            case hir11_9 => simp only [List.getElem?_toArray, List.getElem?_cons_succ, List.getElem?_cons_zero]; rfl
            case hqr11_9 => exact fun _ _ _ h => h
            case hyr11_9 => (refine Or.inl ⟨by rfl, ?_⟩; intro w hSw; (try dsimp only at hSw); go_simp; all_goals with_reducible rfl)
            try simp only [Act.put, List.setIfInBounds_toArray, List.set_cons_zero, List.set_cons_succ]
            refine wpAnyH_ready (rs := [10]) (by kernel_rfl) (by simp) ?_
            refine (AllReadyH.cons (o := ?ob11_10) ?hob11_10 (fun K hK => ?kb11_10) AllReadyH.nil)
            case hob11_10 => simp only [List.getElem?_toArray, List.getElem?_cons_succ, List.getElem?_cons_zero]; rfl
            case kb11_10 =>
              go_simp
              refine hK.out _ _ ?_ (fun hHeld => ?_)
              · exact ⟨cell_setC hc5 (by omega) _, convB (ho5.setC RA5.row _).rd⟩
              clear hK K
              try simp only [Act.put, List.setIfInBounds_toArray, List.set_cons_zero, List.set_cons_succ]
              refine wpAnyH_done (by kernel_rfl) ?_ _
              go_wp2_with fail
              go_roundw
              case rel =>
                have ht := HT.out
                have hln : i < (l.drop 2).length := by have := HL.out; simp; omega
                have ht' : ((l.drop 2).take (i + 1)).map strB = ((l.drop 2).take i).map strB ++ [strB (lth l t)] := by
                  rw [List.take_succ_eq_append_getElem hln, List.map_append]
                  simp [lth, List.getD_eq_getElem?_getD, ht, show 2 + i < l.length by have := HL.out; omega]
                have hs5 : OwS 9 (k2 + 1) w5 a5 (i + 1) c5 (((l.drop 2).take (i + 1)).map strB) := by
                  refine ⟨by rw [ht', List.length_append, hs.len]; rfl, ?_⟩
                  rw [ht']
                  simpa [strs] using hown5
                exact ⟨i + 1, t + 1, a5, c5, by omega, by omega, by go_num, R15.other (p := ⟨k2, 1, none⟩) (by simp; omega) (by simp; omega) _, by simpa using RA5.set 1 (.slice a5 (i + 1) c5), hs5.setC (by omega) _, hoL5.setC RA5.row _⟩
              case measure => simp [intOf]; omega
    case neg =>
      obtain rfl : t = n1 := by omega
      have hall : ((l.drop 2).take i).map strB = (ofF l).ss := by
        rw [List.take_of_length_le (by have := HL.out; simp; omega)]
        rfl
      rw [hall] at hs
      have hrs := hs.rd
      clear hoL hall
      have u0 := RA.cell 0 _ rfl
      have u1 := RA.cell 1 _ rfl
      have u2 := RA.cell 2 _ rfl
      have u3 := RA.cell 3 _ rfl
      go_wp2_with fail
      refine (May_any _ (ofF l).nm hrs ((ofF l).seats : Nat) (by omega) (by have := LV0.out; omega) (ofF l).rule LV1.out).mono ?_
      rintro e w6 ⟨rfl, hb6⟩
      have R6 := R1.later hb6
      have RA6 := RA.later hb6
      have hr6 := (hs.below hb6).base_le (Nat.le_of_lt (Nat.succ_lt_succ hwk))
      have HM := Lib.hid (may_ok (ofF l))
      clear R1 RA hrs hs hb6 u0 u1 u2 u3
      have u0 := RA6.cell 0 _ rfl
      have u1 := RA6.cell 1 _ rfl
      have u2 := RA6.cell 2 _ rfl
      have u3 := RA6.cell 3 _ rfl
      generalize mayC (ofF l).nm (ofF l).ss (((ofF l).seats : Nat) : Int) (ofF l).rule = mc at *
      cases mc with
      | true =>
        have HE := Lib.hid (show r = (ofF l, 0) by rw [HR.out, if_pos (HM.out.2 rfl)])
        clear HR HM
        go_wp2_with first | refine wpList_store_whole rfl 40 _ _ rfl atCon _ _ _ R6.row rfl rfl rfl rfl (con_one _ _ _ _ _ _) ?_
        refine bodyPost_ret (results_cell_two rfl _ _ _ _ _ _ _ rfl (setRow_heap _ _ _ _ _ _ R6.row) Try.underlying40 rfl (by kernel_rfl) _ rfl) rfl ?_
        rw [HE.out]
        exact ⟨a', i, c', rfl, rdS_setR hr6 (Nat.lt_succ_self _) _, (R6.put _).below⟩
      | false =>
        have HE := Lib.hid (show r = (zeroK, 11) by rw [HR.out, if_neg (fun hk => by have := HM.out.1 hk; simp at this)])
        clear HR HM
        go_wp2_with first | refine wpList_store_whole rfl 40 _ _ rfl atCon _ _ _ R6.row rfl rfl rfl rfl (con_one ⟨#[]⟩ none 0 0 0 0) ?_
        refine bodyPost_ret (results_cell_two rfl _ _ _ _ _ _ _ rfl (setRow_heap _ _ _ _ _ _ R6.row) Try.underlying40 rfl (by kernel_rfl) _ rfl) rfl ?_
        exact ret_zero HE.out (R6.put _)

end Go.Proofs.Ytnkbkcmphgejkaa
