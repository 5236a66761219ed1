/- Observing, the program's side: the factor's closure; where ways meet again. -/
import Derived.Test.YtkomdiblopdfiaaPolI
import Derived.Deep.RegionHeld3
import Derived.Laws.EntriesVeiled
namespace Go.Proofs.Ytkomdiblopdfiaa
open Go.RowKit Go.Suf
set_option linter.unusedVariables false
set_option linter.unusedSimpArgs false

/-- Ways that meet again behind a piece of code: what is known of them all, and then the rest. -/
def Met (R : Act → World → Prop) : Exit → Act → World → Prop
  | .normal, a, w => R a w
  | _, _, _ => False

theorem wp_meet {P : Program} {c : Code} {Q : Exit → Act → World → Prop} {a : Act} {w : World} (R : Act → Act → World → Prop)
    (h1 : c.wp P (Met (R a)) a w) (h2 : ∀ a' w', R a a' w' → Q .normal a' w') : c.wp P Q a w :=
  Code.wp_mono (fun e a' w' h => by cases e <;> first | exact h2 _ _ h | exact h.elim) h1

theorem fac_down64 {b : Int} (h1 : 1 ≤ b) (h2 : b ≤ 999) : wrap64 (1000 + wrap64 (-b)) = 1000 + -b := by
  simp only [wrap64]
  omega
theorem fac_up64 {b : Int} (h1 : 1 ≤ b) (h2 : b ≤ 999) : wrap64 (1000 + wrap64 b) = 1000 + b := by
  simp only [wrap64]
  omega

set_option maxRecDepth 100000 in
set_option maxHeartbeats 1000000 in
theorem obsFn_any (w : World) {a : Option Addr} {n c L g i : Nat} (h : Rd .u32 w a n c (limbs L)) (hL : L ≤ mostN) {bet v : Int}
    (k0 : w.cell? ⟨g, 0, none⟩ = some (.int .i64 bet)) (k1 : w.cell? ⟨i, 0, none⟩ = some (.int .i64 v)) (b1 : 1 ≤ bet) (b2 : bet ≤ 999) (v1 : 0 ≤ v) (v2 : v ≤ 2) :
    Calls Try.prog 37 #[.slice a n c, .pointer (some ⟨g, 0, none⟩), .pointer (some ⟨i, 0, none⟩)] w (RetL1 w (limbs (timesN L (factN bet v) 1000))) := by
  obtain ⟨r, hr⟩ : ∃ r, r = limbs (timesN L (factN bet v) 1000) := ⟨_, rfl⟩
  rw [← hr]
  have hv : v = 0 ∨ v = 1 ∨ v = 2 := by omega
  clear v1 v2
  rcases hv with rfl | rfl | rfl
  · obtain ⟨N, hN⟩ : ∃ N : Nat, (N : Int) = 1000 + -bet := ⟨(1000 + -bet : Int).toNat, by omega⟩
    have HN := Lib.hid (show factN bet 0 = N by unfold factN; omega)
    have HR := Lib.hid (show r = limbs (timesN L N 1000) by rw [hr, HN.out])
    have NB := Lib.hid (show N < 9223372036854775808 by omega)
    have cc := polTimes_any _ h hL N 1000 NB.out (by decide) (by decide)
    rw [hN, ← HR.out] at cc
    have WB := Lib.hid (fac_down64 b1 b2)
    clear hr hN b1 b2
    go_enter Try.func37, Try.ntmps37
    go_wp2_with fail
    rw [WB.out]
    refine cc.mono ?_
    rintro e1 w1 ⟨a1, n1, c1, rfl, x1, hb⟩
    clear cc
    go_wp2_with fail
    go_ret
    exact ⟨a1, n1, c1, rfl, x1, hb⟩
  · have HN := Lib.hid (show factN bet 1 = 1000 by unfold factN; omega)
    have HR := Lib.hid (show r = limbs (timesN L 1000 1000) by rw [hr, HN.out])
    have cc := polTimes_any _ h hL 1000 1000 (by decide) (by decide) (by decide)
    rw [← HR.out] at cc
    clear hr b1 b2
    go_enter Try.func37, Try.ntmps37
    go_wp2_with fail
    refine cc.mono ?_
    rintro e1 w1 ⟨a1, n1, c1, rfl, x1, hb⟩
    clear cc
    go_wp2_with fail
    go_ret
    exact ⟨a1, n1, c1, rfl, x1, hb⟩
  · obtain ⟨N, hN⟩ : ∃ N : Nat, (N : Int) = 1000 + bet := ⟨(1000 + bet : Int).toNat, by omega⟩
    have HN := Lib.hid (show factN bet 2 = N by unfold factN; omega)
    have HR := Lib.hid (show r = limbs (timesN L N 1000) by rw [hr, HN.out])
    have NB := Lib.hid (show N < 9223372036854775808 by omega)
    have cc := polTimes_any _ h hL N 1000 NB.out (by decide) (by decide)
    rw [hN, ← HR.out] at cc
    have WB := Lib.hid (fac_up64 b1 b2)
    clear hr hN b1 b2
    go_enter Try.func37, Try.ntmps37
    go_wp2_with fail
    rw [WB.out]
    refine cc.mono ?_
    rintro e1 w1 ⟨a1, n1, c1, rfl, x1, hb⟩
    clear cc
    go_wp2_with fail
    go_ret
    exact ⟨a1, n1, c1, rfl, x1, hb⟩

theorem PRow.rebase {t : TypeId} {w1 w2 w3 : World} {k : Nat} {cs : Array Value} (h : PRow t w2 w3 k cs) (hb : Below w1.heap.size w1 w3) (hl : w1.heap.size ≤ w2.heap.size) : PRow t w1 w3 k cs :=
  ⟨hb, h.row, Nat.le_trans hl h.lo, h.lt⟩

theorem PRow.put {t : TypeId} {w w1 : World} {k : Nat} {cs : Array Value} (h : PRow t w w1 k cs) (cs' : Array Value) : PRow t w (w1.setRow k cs') k cs' :=
  ⟨below_row h.below h.lo _, setRow_heap _ _ _ _ _ _ h.row, h.lo, by rw [setRow_size]; exact h.lt⟩

/-- What holds in front of the k-th value: the state lies in block g9, laid behind W. -/
def ObK (W wr : World) (g9 : Nat) (p : PV) (vs : List Int) (k : Nat) : Prop :=
  ∃ q L B a n c b m d, PRow 25 W wr g9 (polC q a n c b m d) ∧ Rd .u32 wr a n c (limbs L) ∧ Rd .u32 wr b m d (limbs B) ∧ obsN p (vs.take k) = some q ∧ Vld q L B ∧ q.bet = p.bet

/-- The three closures, and the numbers that they hold. -/
def obsF (g i : Nat) : Value := .func (.func 37) #[] #[.pointer (some ⟨g, 0, none⟩), .pointer (some ⟨i, 0, none⟩)]

end Go.Proofs.Ytkomdiblopdfiaa
/- Observe of polling. -/
namespace Go.Proofs.Ytkomdiblopdfiaa
open Go.RowKit Go.Suf
set_option linter.unusedVariables false
set_option linter.unusedSimpArgs false

theorem atFns : AT Try.prog 63 3 := ⟨⟨_, Try.underlying63, rfl⟩, by kernel_rfl⟩

theorem op_store_whole {P : Program} {o : Oper} {a : Act} {w : World} {K : Act → World → Prop} {Q : Exit → Act → World → Prop} (t : TypeId) (x y : Operand) (ho : o.op = .store t x y) {m : Nat} (A : AT P t m)
    {b : Nat} (cur vs : Array Value) (e : TypeId) (hg : w.heap[b]? = some (.cells cur e (0, 0))) (hx : a.eval x = .pointer (some ⟨b, 0, none⟩)) (hy : a.eval y = .agg vs) (hm : vs.size = m) (hcur : cur.size = m) (h1 : ∀ u ∈ vs.toList, u.oneCell' = true)
    (h : K (a.put o.dst undef) (w.setRow b vs)) : o.wp P a w K Q := by
  have hst := run_storeCells_at P b 0 e vs.toList 0 cur w hg (by simp; omega) h1
  simp only [Nat.add_zero, List.take_zero, List.nil_append, Array.length_toList] at hst
  rw [List.drop_eq_nil_of_le (by simp; omega), List.append_nil, Array.toArray_toList] at hst
  unfold Oper.wp execOp
  simp only [ho, hx, hy, Instr.storeAt, Instr.sureAddr, Sem.run_bind, Sem.run_pure, Result.andThen_ok, storeVar, A.sizeOf, Value.cells, hm]
  simp only [ne_eq, not_true_eq_false, if_false, hst]
  exact h

theorem keep_six {w1 w2 w3 : World} {x : Nat} {u0 u1 u2 u3 u4 u5 : Value} (h : Below w1.heap.size w1 w2 ∧ w2.cell? ⟨x, 0, none⟩ = some u0 ∧ w2.cell? ⟨x, 1, none⟩ = some u1 ∧ w2.cell? ⟨x, 2, none⟩ = some u2 ∧ w2.cell? ⟨x, 3, none⟩ = some u3 ∧ w2.cell? ⟨x, 4, none⟩ = some u4 ∧ w2.cell? ⟨x, 5, none⟩ = some u5)
    (hb : Below w2.heap.size w2 w3) (hx : x < w1.heap.size) : Below w1.heap.size w1 w3 ∧ w3.cell? ⟨x, 0, none⟩ = some u0 ∧ w3.cell? ⟨x, 1, none⟩ = some u1 ∧ w3.cell? ⟨x, 2, none⟩ = some u2 ∧ w3.cell? ⟨x, 3, none⟩ = some u3 ∧ w3.cell? ⟨x, 4, none⟩ = some u4 ∧ w3.cell? ⟨x, 5, none⟩ = some u5 := by
  obtain ⟨h0, h1, h2, h3, h4, h5, h6⟩ := h
  have := h0.size
  exact ⟨h0.trans (hb.mono h0.size), cell_later hb h1 (by omega), cell_later hb h2 (by omega), cell_later hb h3 (by omega), cell_later hb h4 (by omega), cell_later hb h5 (by omega), cell_later hb h6 (by omega)⟩

theorem six_row {w1 w2 : World} {x g : Nat} {u0 u1 u2 u3 u4 u5 : Value} {cs : Array Value} (h : Below w1.heap.size w1 w2 ∧ w2.cell? ⟨x, 0, none⟩ = some u0 ∧ w2.cell? ⟨x, 1, none⟩ = some u1 ∧ w2.cell? ⟨x, 2, none⟩ = some u2 ∧ w2.cell? ⟨x, 3, none⟩ = some u3 ∧ w2.cell? ⟨x, 4, none⟩ = some u4 ∧ w2.cell? ⟨x, 5, none⟩ = some u5)
    (hg : w1.heap.size ≤ g) (hx : x ≠ g) : Below w1.heap.size w1 (w2.setRow g cs) ∧ (w2.setRow g cs).cell? ⟨x, 0, none⟩ = some u0 ∧ (w2.setRow g cs).cell? ⟨x, 1, none⟩ = some u1 ∧ (w2.setRow g cs).cell? ⟨x, 2, none⟩ = some u2 ∧ (w2.setRow g cs).cell? ⟨x, 3, none⟩ = some u3 ∧ (w2.setRow g cs).cell? ⟨x, 4, none⟩ = some u4 ∧ (w2.setRow g cs).cell? ⟨x, 5, none⟩ = some u5 := by
  obtain ⟨h0, h1, h2, h3, h4, h5, h6⟩ := h
  simp only [World.cell?, setRow_other _ _ _ _ hx] at *
  exact ⟨below_row h0 hg cs, h1, h2, h3, h4, h5, h6⟩

theorem six_drew {w1 w2 : World} {x : Nat} {u0 u1 u2 u3 u4 u5 : Value} (h : Below w1.heap.size w1 w2 ∧ w2.cell? ⟨x, 0, none⟩ = some u0 ∧ w2.cell? ⟨x, 1, none⟩ = some u1 ∧ w2.cell? ⟨x, 2, none⟩ = some u2 ∧ w2.cell? ⟨x, 3, none⟩ = some u3 ∧ w2.cell? ⟨x, 4, none⟩ = some u4 ∧ w2.cell? ⟨x, 5, none⟩ = some u5) :
    Below w1.heap.size w1 w2.drew ∧ w2.drew.cell? ⟨x, 0, none⟩ = some u0 ∧ w2.drew.cell? ⟨x, 1, none⟩ = some u1 ∧ w2.drew.cell? ⟨x, 2, none⟩ = some u2 ∧ w2.drew.cell? ⟨x, 3, none⟩ = some u3 ∧ w2.drew.cell? ⟨x, 4, none⟩ = some u4 ∧ w2.drew.cell? ⟨x, 5, none⟩ = some u5 := by
  obtain ⟨h0, h1, h2, h3, h4, h5, h6⟩ := h
  simp only [World.cell?_drew]
  exact ⟨h0.drew, h1, h2, h3, h4, h5, h6⟩

/-- What holds in front of the k-th closure. -/
def FnI (w w1 wr : World) (x : Array Value) (k : Nat) : Prop :=
  PRow 25 w wr w.heap.size x ∧ PRow 25 w wr (w.heap.size + 1) zc ∧
  PRow 63 w1 wr w1.heap.size #[if 0 < k then obsF w.heap.size (w1.heap.size + 1) else .nilFunc, if 1 < k then obsF w.heap.size (w1.heap.size + 2) else .nilFunc, if 2 < k then obsF w.heap.size (w1.heap.size + 3) else .nilFunc] ∧
  wr.heap.size = w1.heap.size + 1 + k ∧
  ∀ j, j < k → wr.cell? ⟨w1.heap.size + 1 + j, 0, none⟩ = some (.int .i64 (j : Nat))

theorem FnI.free {w w1 wr : World} {x : Array Value} {k : Nat} (h : FnI w w1 wr x k) (v : Value) (i : Nat) : (wr.alloc (.cells #[v] 3)).frozen? ⟨w1.heap.size, i, none⟩ = false :=
  (h.2.2.1.later (below_al wr (.cells #[v] 3))).free i

theorem FnI.slot {w w1 wr : World} {x : Array Value} {k : Nat} (h : FnI w w1 wr x k) (v : Value) (i : Nat) (hi : i < 3) (hk : k ≤ i) : (wr.alloc (.cells #[v] 3)).cell? ⟨w1.heap.size, i, none⟩ = some .nilFunc := by
  refine (h.2.2.1.later (below_al wr (.cells #[v] 3))).cell i _ ?_
  have three : i = 0 ∨ i = 1 ∨ i = 2 := by omega
  rcases three with rfl | rfl | rfl
  · show some (if 0 < k then _ else _) = _
    rw [if_neg (by omega)]
  · show some (if 1 < k then _ else _) = _
    rw [if_neg (by omega)]
  · show some (if 2 < k then _ else _) = _
    rw [if_neg (by omega)]

theorem FnI.step {w w1 wr : World} {x : Array Value} {k : Nat} (h : FnI w w1 wr x k) (hk : k < 3) (hl : w.heap.size + 1 < w1.heap.size) :
    FnI w w1 ((wr.setCell ⟨w1.heap.size, k, none⟩ (obsF w.heap.size (w1.heap.size + 1 + k))).alloc (.cells #[.int .i64 (k : Nat)] 3)) x (k + 1) := by
  obtain ⟨h0, h1, hg, sz, fi⟩ := h
  have ss : (wr.setCell ⟨w1.heap.size, k, none⟩ (obsF w.heap.size (w1.heap.size + 1 + k))).heap.size = wr.heap.size := by simp [World.setCell]
  have A := below_al (wr.setCell ⟨w1.heap.size, k, none⟩ (obsF w.heap.size (w1.heap.size + 1 + k))) (.cells #[.int .i64 (k : Nat)] 3)
  refine ⟨(h0.other (by show _ ≠ w1.heap.size; omega) (by show _ ≤ w1.heap.size; omega) _).later A, (h1.other (by show _ ≠ w1.heap.size; omega) (by show _ ≤ w1.heap.size; omega) _).later A, ?_, ?_, ?_⟩
  · have := (hg.set k (obsF w.heap.size (w1.heap.size + 1 + k))).later A
    have three : k = 0 ∨ k = 1 ∨ k = 2 := by omega
    rcases three with rfl | rfl | rfl
    · exact this
    · exact this
    · exact this
  · rw [World.size_alloc, ss]
    omega
  · intro j hj
    have hne : w1.heap.size + 1 + j ≠ (⟨w1.heap.size, k, none⟩ : Addr).block := by show _ ≠ w1.heap.size; omega
    have e : ∀ v, (wr.setCell ⟨w1.heap.size, k, none⟩ v).cell? ⟨w1.heap.size + 1 + j, 0, none⟩ = wr.cell? ⟨w1.heap.size + 1 + j, 0, none⟩ := fun v => by
      simp only [World.cell?, Below.heap_setCell _ _ _ _ hne]
    by_cases hjk : j < k
    · exact cell_later A (by rw [e]; exact fi j hjk) (by rw [ss]; show _ < wr.heap.size; omega)
    · obtain rfl : j = k := by omega
      have := rat_cell (wr.setCell ⟨w1.heap.size, j, none⟩ (obsF w.heap.size (w1.heap.size + 1 + j))) #[.int .i64 (j : Nat)] 3 0 _ rfl
      rw [ss, sz] at this
      exact this

set_option maxRecDepth 100000 in
set_option maxHeartbeats 4000000 in
theorem observe_any (w : World) {p : PV} {a b : Option Addr} {n m c d : Nat} (h1 : Rd .u32 w a n c p.lev) (h2 : Rd .u32 w b m d p.best) (hw : PW p)
    {av : Option Addr} {nv cv : Nat} {vs : List Int} (hv : RdI w av nv cv vs) :
    Calls Try.prog 11 #[polV p a n c b m d, .slice av nv cv] w (RetPE w (obsC p vs)) := by
  obtain ⟨r, hr⟩ : ∃ r, r = obsC p vs := ⟨_, rfl⟩
  rw [← hr]
  obtain ⟨R0, R1⟩ := pol_blocks w (polC p a n c b m d)
  have k0 := R0.cell 0 _ rfl
  have k1 := R0.cell 1 _ rfl
  have k2 := R0.cell 2 _ rfl
  have k3 := R0.cell 3 _ rfl
  have k4 := R0.cell 4 _ rfl
  have k5 := R0.cell 5 _ rfl
  have hn := hv.lt
  have HL := Lib.hid hv.len
  by_cases hc : chkP p = 0
  case neg =>
    have e := Lib.hid (show r = (zeroP, 8) by rw [hr]; exact obsC_bad hc)
    have C := Lib.hid ((chkP_two _).resolve_left hc)
    clear hr hc
    go_enter Try.func11, Try.ntmps11
    go_wp2_with fail
    have cc := check_any _ (h1.below R0.below) (h2.below R0.below) hw
    rw [C.out] at cc
    refine cc.mono ?_
    rintro e1 w1 ⟨rfl, hb⟩
    have R1 := R1.later hb
    have row1 := R1.row
    have HB := Lib.hid (fun cs => below_row R1.below R1.lo cs)
    clear cc hb
    go_wp2_with (refine wpList_store_whole rfl 25 _ _ rfl atPol _ _ _ row1 rfl rfl rfl rfl (pol_one zeroP _ _ _ _ _ _) ?_)
    refine bodyPost_ret (results_cell_two rfl _ _ _ _ _ _ _ rfl (setRow_heap _ _ _ _ _ _ row1) Try.underlying25 rfl (by kernel_rfl) _ rfl) rfl ?_
    refine ⟨none, 0, 0, none, 0, 0, by rw [e.out]; rfl, ?_, ?_, HB.out _⟩
    · rw [e.out]; exact Rd.nil _ _
    · rw [e.out]; exact Rd.nil _ _
  case pos =>
  obtain ⟨L0, B0, vld0⟩ := chkP_get (fun x hx => h1.bd x hx) (fun x hx => h2.bd x hx) hc
  have C := Lib.hid hc
  have HR := Lib.hid hr
  have VL := Lib.hid vld0
  clear hr hc vld0
  go_enter Try.func11, Try.ntmps11
  go_wp2_with fail
  have cc := check_any _ (h1.below R0.below) (h2.below R0.below) hw
  rw [C.out] at cc
  refine cc.mono ?_
  rintro e1 w1 ⟨rfl, hb⟩
  clear cc
  have R0 := R0.later hb
  have R1 := R1.later hb
  have x1 := (h1.below R0.below)
  have x2 := (h2.below R0.below)
  clear k0 k1 k2 k3 k4 k5 hb
  have hmf : ∀ (fn : Fn) (first cap : Array Value) (w : World), (Instr.makeFunc fn first cap).run Try.prog w = .ok (.func fn first cap) w := fun _ _ _ _ => rfl
  have RG0 := PRow.new 63 w1 #[.nilFunc, .nilFunc, .nilFunc]
  have start : FnI w w1 (w1.alloc (.cells #[.nilFunc, .nilFunc, .nilFunc] 63)) (polC p a n c b m d) 0 := ⟨R0.later RG0.below, R1.later RG0.below, RG0, World.size_alloc _ _, fun j hj => absurd hj (Nat.not_lt_zero _)⟩
  have LT := Lib.hid (R1.lt)
  clear RG0
  go_wp2_with first | refine wpList_store_new rfl 63 _ _ rfl atFns _ _ _ rfl rfl rfl rfl (by intro u hu; simp at hu; subst hu; rfl) ?_
  go_loopw [19] (fun i wr => ∃ (k : Nat), k ≤ 3 ∧ i = .int .i64 (k : Nat) ∧ FnI w w1 wr (polC p a n c b m d) k) (fun i _ => 3 - (intOf i).toNat)
  case atStart => exact ⟨0, Nat.zero_le _, rfl, start⟩
  case round =>
    obtain ⟨k, hk, rfl, fI⟩ := hrel
    have FI := Lib.hid fI
    have sz := fI.2.2.2.1
    clear start fI
    by_cases hlt : k < 3
    · have three : k = 0 ∨ k = 1 ∨ k = 2 := by omega
      rcases three with rfl | rfl | rfl
      · have kg : (wr.alloc (.cells #[.int .i64 0] 3)).cell? ⟨w1.heap.size, 0, none⟩ = some .nilFunc := FI.out.slot _ 0 (by decide) (by decide)
        have fr : (wr.alloc (.cells #[.int .i64 0] 3)).frozen? ⟨w1.heap.size, 0, none⟩ = false := FI.out.free _ 0
        have NX := Lib.hid (FI.out.step (by decide) LT.out)
        go_wp2_with fail
        go_roundw
        case rel => exact ⟨1, by decide, by go_num, NX.out⟩
        case measure => simp [intOf]
      · have kg : (wr.alloc (.cells #[.int .i64 1] 3)).cell? ⟨w1.heap.size, 1, none⟩ = some .nilFunc := FI.out.slot _ 1 (by decide) (by decide)
        have fr : (wr.alloc (.cells #[.int .i64 1] 3)).frozen? ⟨w1.heap.size, 1, none⟩ = false := FI.out.free _ 1
        have NX := Lib.hid (FI.out.step (by decide) LT.out)
        go_wp2_with fail
        go_roundw
        case rel => exact ⟨2, by decide, by go_num, NX.out⟩
        case measure => simp [intOf]
      · have kg : (wr.alloc (.cells #[.int .i64 2] 3)).cell? ⟨w1.heap.size, 2, none⟩ = some .nilFunc := FI.out.slot _ 2 (by decide) (by decide)
        have fr : (wr.alloc (.cells #[.int .i64 2] 3)).frozen? ⟨w1.heap.size, 2, none⟩ = false := FI.out.free _ 2
        have NX := Lib.hid (FI.out.step (by decide) LT.out)
        go_wp2_with fail
        go_roundw
        case rel => exact ⟨3, by decide, by go_num, NX.out⟩
        case measure => simp [intOf]
    · obtain rfl : k = 3 := by omega
      clear sz
      have F0 := FI.out.1
      have F1 := FI.out.2.1
      have x1' := x1
      have hbw : Below w1.heap.size w1 wr := FI.out.2.2.1.below
      have y1 := x1.below hbw
      have y2 := x2.below hbw
      have SZ := Lib.hid (show n ≤ 1099511627776 ∧ m ≤ 1099511627776 by
        have u1 := x1.len
        have u2 := x2.len
        rw [VL.out.lev] at u1
        rw [VL.out.best] at u2
        have v1 := limbs_len_le VL.out.pw.1
        have v2 := limbs_len_le VL.out.pw.2
        omega)
      go_wp2_with fail
      refine wp_meet (fun u u' w' => ∃ a1 n1 c1 a2 n2 c2 g9, u' = (((((((((((u.put (some 26) (.pointer (some ⟨w.heap.size, 0, none⟩))).put (some 27) (.int .i64 p.bet)).put (some 28) (.pointer (some ⟨w.heap.size, 1, none⟩))).put (some 29) (.agg #[.int .i64 p.s0, .int .i64 p.s1, .int .i64 p.s2])).put (some 30) (.pointer (some ⟨w.heap.size, 4, none⟩))).put (some 31) (.slice a n c)).put (some 32) (.slice a1 n1 c1)).put (some 33) (.pointer (some ⟨w.heap.size, 5, none⟩))).put (some 34) (.slice b m d)).put (some 35) (.slice a2 n2 c2)).put (some 36) (.agg (polC p a1 n1 c1 a2 n2 c2))).put (some 9) (.pointer (some ⟨g9, 0, none⟩)) ∧ PRow 25 wr w' g9 (polC p a1 n1 c1 a2 n2 c2) ∧ Rd .u32 w' a1 n1 c1 p.lev ∧ Rd .u32 w' a2 n2 c2 p.best) ?_ ?_
      · refine wp_region_held_drew (S := (fun w' => Below wr.heap.size wr w' ∧ w'.cell? ⟨w.heap.size, 0, none⟩ = some (.int .i64 p.bet) ∧ w'.cell? ⟨w.heap.size, 1, none⟩ = some (.int .i64 p.s0) ∧ w'.cell? ⟨w.heap.size, 2, none⟩ = some (.int .i64 p.s1) ∧ w'.cell? ⟨w.heap.size, 3, none⟩ = some (.int .i64 p.s2) ∧ w'.cell? ⟨w.heap.size, 4, none⟩ = some (.slice a n c) ∧ w'.cell? ⟨w.heap.size, 5, none⟩ = some (.slice b m d))) (by kernel_rfl) ?_ (fun hHeld => ?_)
        · exact six_drew ⟨Below.refl _ _, F0.cell 0 _ rfl, F0.cell 1 _ rfl, F0.cell 2 _ rfl, F0.cell 3 _ rfl, F0.cell 4 _ rfl, F0.cell 5 _ rfl⟩
        refine wpAnyH_take (i := 0) (oi := ?oir1_0) (v := ?vr1_0) ?hir1_0 (by kernel_rfl) (by kernel_rfl) (by kernel_rfl) ?hqr1_0 ?hyr1_0 (by assumption) ?restr1_0
        case hir1_0 => simp only [List.getElem?_toArray, List.getElem?_cons_succ, List.getElem?_cons_zero]; rfl
        case hqr1_0 => exact fun _ _ _ h => h
        case hyr1_0 => (refine Or.inl ⟨by rfl, ?_⟩; intro w hSw; (try dsimp only at hSw); go_simp; all_goals with_reducible rfl)
        try simp only [Act.put, List.setIfInBounds_toArray, List.set_cons_zero, List.set_cons_succ]
        refine wpAnyH_take (i := 1) (oi := ?oir1_1) (v := ?vr1_1) ?hir1_1 (by kernel_rfl) (by kernel_rfl) (by kernel_rfl) ?hqr1_1 ?hyr1_1 (by assumption) ?restr1_1
        case hir1_1 => simp only [List.getElem?_toArray, List.getElem?_cons_succ, List.getElem?_cons_zero]; rfl
        case hqr1_1 => exact fun _ _ _ h => h
        case hyr1_1 => (refine Or.inl ⟨by rfl, ?_⟩; intro w hSw; (try dsimp only at hSw); go_simp; all_goals with_reducible rfl)
        try simp only [Act.put, List.setIfInBounds_toArray, List.set_cons_zero, List.set_cons_succ]
        refine wpAnyH_take (i := 2) (oi := ?oir1_2) (v := ?vr1_2) ?hir1_2 (by kernel_rfl) (by kernel_rfl) (by kernel_rfl) ?hqr1_2 ?hyr1_2 (by assumption) ?restr1_2
        case hir1_2 => simp only [List.getElem?_toArray, List.getElem?_cons_succ, List.getElem?_cons_zero]; rfl
        case hqr1_2 => exact fun _ _ _ h => h
        case hyr1_2 => (refine Or.inl ⟨by rfl, ?_⟩; intro w hSw; (try dsimp only at hSw); go_simp; all_goals with_reducible rfl)
        try simp only [Act.put, List.setIfInBounds_toArray, List.set_cons_zero, List.set_cons_succ]
        refine wpAnyH_take (i := 3) (oi := ?oir1_3) (v := ?vr1_3) ?hir1_3 (by kernel_rfl) (by kernel_rfl) (by kernel_rfl) ?hqr1_3 ?hyr1_3 (by assumption) ?restr1_3
        case hir1_3 => simp only [List.getElem?_toArray, List.getElem?_cons_succ, List.getElem?_cons_zero]; rfl
        case hqr1_3 => exact fun _ _ _ h => h
        case hyr1_3 => (refine Or.inl ⟨by rfl, ?_⟩; intro w hSw; (try dsimp only at hSw); go_simp; all_goals with_reducible rfl)
        try simp only [Act.put, List.setIfInBounds_toArray, List.set_cons_zero, List.set_cons_succ]
        refine wpAnyH_take (i := 4) (oi := ?oir1_4) (v := ?vr1_4) ?hir1_4 (by kernel_rfl) (by kernel_rfl) (by kernel_rfl) ?hqr1_4 ?hyr1_4 (by assumption) ?restr1_4
        case hir1_4 => simp only [List.getElem?_toArray, List.getElem?_cons_succ, List.getElem?_cons_zero]; rfl
        case hqr1_4 => exact fun _ _ _ h => h
        case hyr1_4 => (refine Or.inl ⟨by rfl, ?_⟩; intro w hSw; (try dsimp only at hSw); go_simp; all_goals with_reducible rfl)
        try simp only [Act.put, List.setIfInBounds_toArray, List.set_cons_zero, List.set_cons_succ]
        refine wpAnyH_take (i := 5) (oi := ?oir1_5) (v := ?vr1_5) ?hir1_5 (by kernel_rfl) (by kernel_rfl) (by kernel_rfl) ?hqr1_5 ?hyr1_5 (by assumption) ?restr1_5
        case hir1_5 => simp only [List.getElem?_toArray, List.getElem?_cons_succ, List.getElem?_cons_zero]; rfl
        case hqr1_5 => exact fun _ _ _ h => h
        case hyr1_5 => (refine Or.inl ⟨by rfl, ?_⟩; intro w hSw; (try dsimp only at hSw); go_simp; all_goals with_reducible rfl)
        try simp only [Act.put, List.setIfInBounds_toArray, List.set_cons_zero, List.set_cons_succ]
        refine wpAnyH_take (i := 7) (oi := ?oir1_7) (v := ?vr1_7) ?hir1_7 (by kernel_rfl) (by kernel_rfl) (by kernel_rfl) ?hqr1_7 ?hyr1_7 (by assumption) ?restr1_7
        case hir1_7 => simp only [List.getElem?_toArray, List.getElem?_cons_succ, List.getElem?_cons_zero]; rfl
        case hqr1_7 => exact fun _ _ _ h => h
        case hyr1_7 => (refine Or.inl ⟨by rfl, ?_⟩; intro w hSw; (try dsimp only at hSw); go_simp; all_goals with_reducible rfl)
        try simp only [Act.put, List.setIfInBounds_toArray, List.set_cons_zero, List.set_cons_succ]
        refine wpAnyH_take (i := 8) (oi := ?oir1_8) (v := ?vr1_8) ?hir1_8 (by kernel_rfl) (by kernel_rfl) (by kernel_rfl) ?hqr1_8 ?hyr1_8 (by assumption) ?restr1_8
        case hir1_8 => simp only [List.getElem?_toArray, List.getElem?_cons_succ, List.getElem?_cons_zero]; rfl
        case hqr1_8 => exact fun _ _ _ h => h
        case hyr1_8 => (refine Or.inl ⟨by rfl, ?_⟩; intro w hSw; (try dsimp only at hSw); go_simp; all_goals with_reducible rfl)
        try simp only [Act.put, List.setIfInBounds_toArray, List.set_cons_zero, List.set_cons_succ]
        refine wpAnyH_ready (rs := [6, 11]) (by kernel_rfl) (by simp) ?_
        refine (AllReadyH.cons (o := ?ob13_6) ?hob13_6 (fun K hK => ?kb13_6) (AllReadyH.cons (o := ?ob13_11) ?hob13_11 (fun K hK => ?kb13_11) AllReadyH.nil))
        case hob13_6 => simp only [List.getElem?_toArray, List.getElem?_cons_succ, List.getElem?_cons_zero]; rfl
        case hob13_11 => simp only [List.getElem?_toArray, List.getElem?_cons_succ, List.getElem?_cons_zero]; rfl
        case kb13_6 =>
          go_simp
          go_at_call 39; (with_reducible refine (Clone_any _ (y1.below hHeld.1) SZ.out.1).mono ?_); rintro e2 w2 ⟨aw2, nw2, cw2, rfl, xw2, bw2⟩
          go_wp2_with fail
          refine hK.out _ _ ?_ (fun hHeld => ?_)
          · exact keep_six hHeld bw2 F0.lt
          clear hK K
          try simp only [Act.put, List.setIfInBounds_toArray, List.set_cons_zero, List.set_cons_succ]
          have SB2 := hHeld.1
          refine wpAnyH_ready (rs := [9, 11]) (by kernel_rfl) (by simp) ?_
          refine (AllReadyH.cons (o := ?ob8_9) ?hob8_9 (fun K hK => ?kb8_9) (AllReadyH.cons (o := ?ob8_11) ?hob8_11 (fun K hK => ?kb8_11) AllReadyH.nil))
          case hob8_9 => simp only [List.getElem?_toArray, List.getElem?_cons_succ, List.getElem?_cons_zero]; rfl
          case hob8_11 => simp only [List.getElem?_toArray, List.getElem?_cons_succ, List.getElem?_cons_zero]; rfl
          case kb8_9 =>
            go_simp
            go_at_call 39; (with_reducible refine (Clone_any _ (y2.below hHeld.1) SZ.out.2).mono ?_); rintro e2 w3 ⟨aw3, nw3, cw3, rfl, xw3, bw3⟩
            go_wp2_with fail
            refine hK.out _ _ ?_ (fun hHeld => ?_)
            · exact keep_six hHeld bw3 F0.lt
            clear hK K
            try simp only [Act.put, List.setIfInBounds_toArray, List.set_cons_zero, List.set_cons_succ]
            have SB3 := hHeld.1
            refine wpAnyH_take (i := 10) (oi := ?oir7_10) (v := ?vr7_10) ?hir7_10 (by kernel_rfl) (by kernel_rfl) (by kernel_rfl) ?hqr7_10 ?hyr7_10 (by assumption) ?restr7_10
            case hir7_10 => simp only [List.getElem?_toArray, List.getElem?_cons_succ, List.getElem?_cons_zero]; rfl
            case hqr7_10 => exact fun _ _ _ h => h
            case hyr7_10 => (refine Or.inl ⟨by rfl, ?_⟩; intro w hSw; (try dsimp only at hSw); go_simp; all_goals with_reducible rfl)
            try simp only [Act.put, List.setIfInBounds_toArray, List.set_cons_zero, List.set_cons_succ]
            refine wpAnyH_ready (rs := [11]) (by kernel_rfl) (by simp) ?_
            refine (AllReadyH.cons (o := ?ob3_11) ?hob3_11 (fun K hK => ?kb3_11) AllReadyH.nil)
            case hob3_11 => simp only [List.getElem?_toArray, List.getElem?_cons_succ, List.getElem?_cons_zero]; rfl
            case kb3_11 =>
              go_simp
              refine hK.out _ _ ?_ (fun hHeld => ?_)
              · exact keep_six hHeld (below_al _ _) F0.lt
              clear hK K
              try simp only [Act.put, List.setIfInBounds_toArray, List.set_cons_zero, List.set_cons_succ]
              have RA := (PRow.new 25 w3 zc).rebase hHeld.1 SB3.size
              refine wpAnyH_ready (rs := [12]) (by kernel_rfl) (by simp) ?_
              refine (AllReadyH.cons (o := ?ob2_12) ?hob2_12 (fun K hK => ?kb2_12) AllReadyH.nil)
              case hob2_12 => simp only [List.getElem?_toArray, List.getElem?_cons_succ, List.getElem?_cons_zero]; rfl
              case kb2_12 =>
                rw [if_pos (by rfl)]
                refine op_store_whole 25 _ _ rfl atPol _ _ _ RA.row rfl rfl rfl rfl (pol_one p _ _ _ _ _ _) ?_
                refine hK.out _ _ ?_ (fun hHeld => ?_)
                · exact six_row hHeld RA.lo (by have := RA.lo; have := F0.lt; omega)
                clear hK K
                try simp only [Act.put, List.setIfInBounds_toArray, List.set_cons_zero, List.set_cons_succ]
                refine wpAnyH_done (by kernel_rfl) ?_ _
                exact ⟨aw2, nw2, cw2, aw3, nw3, cw3, _, rfl, RA.put _, rd_rowset ((xw2.below bw3).below (below_al w3 _)) RA.row (pol_noint zeroP _ _ _ _ _ _) _, rd_rowset (xw3.below (below_al w3 _)) RA.row (pol_noint zeroP _ _ _ _ _ _) _⟩
          case kb8_11 =>
            go_simp
            refine hK.out _ _ ?_ (fun hHeld => ?_)
            · exact keep_six hHeld (below_al _ _) F0.lt
            clear hK K
            try simp only [Act.put, List.setIfInBounds_toArray, List.set_cons_zero, List.set_cons_succ]
            have RA := (PRow.new 25 w2 zc).rebase hHeld.1 SB2.size
            refine wpAnyH_ready (rs := [9]) (by kernel_rfl) (by simp) ?_
            refine (AllReadyH.cons (o := ?ob6_9) ?hob6_9 (fun K hK => ?kb6_9) AllReadyH.nil)
            case hob6_9 => simp only [List.getElem?_toArray, List.getElem?_cons_succ, List.getElem?_cons_zero]; rfl
            case kb6_9 =>
              go_simp
              go_at_call 39; (with_reducible refine (Clone_any _ (y2.below hHeld.1) SZ.out.2).mono ?_); rintro e2 w3 ⟨aw3, nw3, cw3, rfl, xw3, bw3⟩
              go_wp2_with fail
              refine hK.out _ _ ?_ (fun hHeld => ?_)
              · exact keep_six hHeld bw3 F0.lt
              clear hK K
              try simp only [Act.put, List.setIfInBounds_toArray, List.set_cons_zero, List.set_cons_succ]
              have RA := RA.later bw3
              refine wpAnyH_take (i := 10) (oi := ?oir4_10) (v := ?vr4_10) ?hir4_10 (by kernel_rfl) (by kernel_rfl) (by kernel_rfl) ?hqr4_10 ?hyr4_10 (by assumption) ?restr4_10
              case hir4_10 => simp only [List.getElem?_toArray, List.getElem?_cons_succ, List.getElem?_cons_zero]; rfl
              case hqr4_10 => exact fun _ _ _ h => h
              case hyr4_10 => (refine Or.inl ⟨by rfl, ?_⟩; intro w hSw; (try dsimp only at hSw); go_simp; all_goals with_reducible rfl)
              try simp only [Act.put, List.setIfInBounds_toArray, List.set_cons_zero, List.set_cons_succ]
              refine wpAnyH_ready (rs := [12]) (by kernel_rfl) (by simp) ?_
              refine (AllReadyH.cons (o := ?ob5_12) ?hob5_12 (fun K hK => ?kb5_12) AllReadyH.nil)
              case hob5_12 => simp only [List.getElem?_toArray, List.getElem?_cons_succ, List.getElem?_cons_zero]; rfl
              case kb5_12 =>
                rw [if_pos (by rfl)]
                refine op_store_whole 25 _ _ rfl atPol _ _ _ RA.row rfl rfl rfl rfl (pol_one p _ _ _ _ _ _) ?_
                refine hK.out _ _ ?_ (fun hHeld => ?_)
                · exact six_row hHeld RA.lo (by have := RA.lo; have := F0.lt; omega)
                clear hK K
                try simp only [Act.put, List.setIfInBounds_toArray, List.set_cons_zero, List.set_cons_succ]
                refine wpAnyH_done (by kernel_rfl) ?_ _
                exact ⟨aw2, nw2, cw2, aw3, nw3, cw3, _, rfl, RA.put _, rd_rowset ((xw2.below (below_al w2 _)).below bw3) RA.row (pol_noint zeroP _ _ _ _ _ _) _, rd_rowset xw3 RA.row (pol_noint zeroP _ _ _ _ _ _) _⟩
        case kb13_11 =>
          go_simp
          refine hK.out _ _ ?_ (fun hHeld => ?_)
          · exact keep_six hHeld (below_al _ _) F0.lt
          clear hK K
          try simp only [Act.put, List.setIfInBounds_toArray, List.set_cons_zero, List.set_cons_succ]
          have RA := (PRow.new 25 wr.drew zc).rebase hHeld.1 (by simp)
          have RA : PRow 25 wr _ wr.heap.size zc := RA
          refine wpAnyH_ready (rs := [6]) (by kernel_rfl) (by simp) ?_
          refine (AllReadyH.cons (o := ?ob12_6) ?hob12_6 (fun K hK => ?kb12_6) AllReadyH.nil)
          case hob12_6 => simp only [List.getElem?_toArray, List.getElem?_cons_succ, List.getElem?_cons_zero]; rfl
          case kb12_6 =>
            go_simp
            go_at_call 39; (with_reducible refine (Clone_any _ (y1.below hHeld.1) SZ.out.1).mono ?_); rintro e2 w2 ⟨aw2, nw2, cw2, rfl, xw2, bw2⟩
            go_wp2_with fail
            refine hK.out _ _ ?_ (fun hHeld => ?_)
            · exact keep_six hHeld bw2 F0.lt
            clear hK K
            try simp only [Act.put, List.setIfInBounds_toArray, List.set_cons_zero, List.set_cons_succ]
            have RA := RA.later bw2
            refine wpAnyH_ready (rs := [9]) (by kernel_rfl) (by simp) ?_
            refine (AllReadyH.cons (o := ?ob11_9) ?hob11_9 (fun K hK => ?kb11_9) AllReadyH.nil)
            case hob11_9 => simp only [List.getElem?_toArray, List.getElem?_cons_succ, List.getElem?_cons_zero]; rfl
            case kb11_9 =>
              go_simp
              go_at_call 39; (with_reducible refine (Clone_any _ (y2.below hHeld.1) SZ.out.2).mono ?_); rintro e2 w3 ⟨aw3, nw3, cw3, rfl, xw3, bw3⟩
              go_wp2_with fail
              refine hK.out _ _ ?_ (fun hHeld => ?_)
              · exact keep_six hHeld bw3 F0.lt
              clear hK K
              try simp only [Act.put, List.setIfInBounds_toArray, List.set_cons_zero, List.set_cons_succ]
              have RA := RA.later bw3
              refine wpAnyH_take (i := 10) (oi := ?oir9_10) (v := ?vr9_10) ?hir9_10 (by kernel_rfl) (by kernel_rfl) (by kernel_rfl) ?hqr9_10 ?hyr9_10 (by assumption) ?restr9_10
              case hir9_10 => simp only [List.getElem?_toArray, List.getElem?_cons_succ, List.getElem?_cons_zero]; rfl
              case hqr9_10 => exact fun _ _ _ h => h
              case hyr9_10 => (refine Or.inl ⟨by rfl, ?_⟩; intro w hSw; (try dsimp only at hSw); go_simp; all_goals with_reducible rfl)
              try simp only [Act.put, List.setIfInBounds_toArray, List.set_cons_zero, List.set_cons_succ]
              refine wpAnyH_ready (rs := [12]) (by kernel_rfl) (by simp) ?_
              refine (AllReadyH.cons (o := ?ob10_12) ?hob10_12 (fun K hK => ?kb10_12) AllReadyH.nil)
              case hob10_12 => simp only [List.getElem?_toArray, List.getElem?_cons_succ, List.getElem?_cons_zero]; rfl
              case kb10_12 =>
                rw [if_pos (by rfl)]
                refine op_store_whole 25 _ _ rfl atPol _ _ _ RA.row rfl rfl rfl rfl (pol_one p _ _ _ _ _ _) ?_
                refine hK.out _ _ ?_ (fun hHeld => ?_)
                · exact six_row hHeld RA.lo (by have := RA.lo; have := F0.lt; omega)
                clear hK K
                try simp only [Act.put, List.setIfInBounds_toArray, List.set_cons_zero, List.set_cons_succ]
                refine wpAnyH_done (by kernel_rfl) ?_ _
                exact ⟨aw2, nw2, cw2, aw3, nw3, cw3, _, rfl, RA.put _, rd_rowset (xw2.below bw3) RA.row (pol_noint zeroP _ _ _ _ _ _) _, rd_rowset xw3 RA.row (pol_noint zeroP _ _ _ _ _ _) _⟩
      rintro a' w' ⟨a1, n1, c1, a2, n2, c2, g9, rfl, R9, z1, z2⟩
      simp only [Act.put, List.setIfInBounds_toArray, List.set_cons_zero, List.set_cons_succ, Int.cast_ofNat_Int]
      obtain ⟨W, hW⟩ : ∃ W, W = wr := ⟨_, rfl⟩
      subst hW
      clear y1 y2 F0
      go_wp2_with fail
      go_loopw [39] (fun i w' => ∃ (k : Nat), k ≤ nv ∧ i = .int .i64 (k : Nat) ∧ ObK W w' g9 p vs k) (fun i _ => nv - (intOf i).toNat)
      case atStart => exact ⟨0, Nat.zero_le _, rfl, p, L0, B0, a1, n1, c1, a2, n2, c2, R9, by rw [← VL.out.lev]; exact z1, by rw [← VL.out.best]; exact z2, rfl, VL.out, rfl⟩
      case round =>
        obtain ⟨k, hk, rfl, q, L, B, a', n', c', b', m', d', R, ra, rb, ho, hvld, hbet⟩ := hrel
        have HO := Lib.hid ho
        have vld := Lib.hid hvld
        have BET := Lib.hid hbet
        have R1' := F1.later R.below
        have row1 := R1'.row
        have HB := Lib.hid (fun cs => below_row R1'.below R1'.lo cs)
        clear ho hvld hbet R9 z1 z2
        have k0 := R.cell 0 _ rfl
        have k1 := R.cell 1 _ rfl
        have k2 := R.cell 2 _ rfl
        have k3 := R.cell 3 _ rfl
        have k4 := R.cell 4 _ rfl
        have k5 := R.cell 5 _ rfl
        by_cases hlt : k < nv
        · obtain ⟨bv, off, rfl, hall⟩ := (hv.below R1'.below).addr (by omega)
          have hcell := hall k hlt
          obtain ⟨x, hx⟩ : ∃ x, x = ith vs k := ⟨_, rfl⟩
          rw [← hx] at hcell
          have HX := Lib.hid hx
          clear hx hall
          by_cases x0 : x < 0
          · have d1 : decide (x < 0) = true := decide_eq_true x0
            have e := Lib.hid (show r = (zeroP, 2) by
              rw [HR.out]
              exact obsC_none C.out (obsN_fail (k := k + 1) (by rw [obsN_snoc HO.out (by rw [HL.out]; exact hlt), ← HX.out]; exact obs1_out (.inl x0))))
            clear ra rb
            go_wp2_with (refine wpList_store_whole rfl 25 _ _ rfl atPol _ _ _ row1 rfl rfl rfl rfl (pol_one zeroP _ _ _ _ _ _) ?_)
            refine bodyPost_ret (results_cell_two rfl _ _ _ _ _ _ _ rfl (setRow_heap _ _ _ _ _ _ row1) Try.underlying25 rfl (by kernel_rfl) _ rfl) rfl ?_
            refine ⟨none, 0, 0, none, 0, 0, by rw [e.out]; rfl, ?_, ?_, HB.out _⟩
            · rw [e.out]; exact Rd.nil _ _
            · rw [e.out]; exact Rd.nil _ _
          by_cases x2 : 2 < x
          · have d1 : decide (x < 0) = false := decide_eq_false x0
            have d2 : decide (3 ≤ x) = true := decide_eq_true (by omega)
            have e := Lib.hid (show r = (zeroP, 2) by
              rw [HR.out]
              exact obsC_none C.out (obsN_fail (k := k + 1) (by rw [obsN_snoc HO.out (by rw [HL.out]; exact hlt), ← HX.out]; exact obs1_out (.inr (.inl x2)))))
            clear ra rb
            go_wp2_with (refine wpList_store_whole rfl 25 _ _ rfl atPol _ _ _ row1 rfl rfl rfl rfl (pol_one zeroP _ _ _ _ _ _) ?_)
            refine bodyPost_ret (results_cell_two rfl _ _ _ _ _ _ _ rfl (setRow_heap _ _ _ _ _ _ row1) Try.underlying25 rfl (by kernel_rfl) _ rfl) rfl ?_
            refine ⟨none, 0, 0, none, 0, 0, by rw [e.out]; rfl, ?_, ?_, HB.out _⟩
            · rw [e.out]; exact Rd.nil _ _
            · rw [e.out]; exact Rd.nil _ _
          have three : x = 0 ∨ x = 1 ∨ x = 2 := by omega
          clear x0 x2
          rcases three with rfl | rfl | rfl
          · have HF := Lib.hid (show seenAt q 0 = q.s0 from rfl)
            have sv := vld.out.s0
            unfold inS at sv
            have sv0 : 0 ≤ q.s0 := by omega
            by_cases full : q.s0 = 1000000
            · have e := Lib.hid (show r = (zeroP, 2) by
                rw [HR.out]
                exact obsC_none C.out (obsN_fail (k := k + 1) (by rw [obsN_snoc HO.out (by rw [HL.out]; exact hlt), ← HX.out]; exact obs1_out (.inr (.inr (by rw [HF.out]; omega))))))
              have d2 : (q.s0 == 1000000) = true := beq_iff_eq.2 full
              clear ra rb full sv sv0
              go_wp2_with (refine wpList_store_whole rfl 25 _ _ rfl atPol _ _ _ row1 rfl rfl rfl rfl (pol_one zeroP _ _ _ _ _ _) ?_)
              refine bodyPost_ret (results_cell_two rfl _ _ _ _ _ _ _ rfl (setRow_heap _ _ _ _ _ _ row1) Try.underlying25 rfl (by kernel_rfl) _ rfl) rfl ?_
              refine ⟨none, 0, 0, none, 0, 0, by rw [e.out]; rfl, ?_, ?_, HB.out _⟩
              · rw [e.out]; exact Rd.nil _ _
              · rw [e.out]; exact Rd.nil _ _
            have d2 : (q.s0 == 1000000) = false := beq_eq_false_iff_ne.2 full
            have HV := Lib.hid (step_vld vld.out (v := 0) (by decide) (by decide) (by rw [HF.out]; omega))
            have HO2 := Lib.hid (show obsN p (vs.take (k + 1)) = some (step q 0) by
              rw [obsN_snoc HO.out (by rw [HL.out]; exact hlt), ← HX.out]
              exact obs1_in (by rw [HF.out]; omega))
            have sv1 : q.s0 < 1000000 := by omega
            have LM := Lib.hid (show L ≤ mostN from Nat.le_trans vld.out.le vld.out.hi)
            have BT := Lib.hid (show 1 ≤ p.bet ∧ p.bet ≤ 999 by rw [← BET.out]; exact vld.out.bet)
            have EL := Lib.hid (show timesN L (factN p.bet 0) 1000 = newL q 0 L by unfold newL; rw [BET.out])
            have LF := Lib.hid (show B < pw 96 ∧ newL q 0 L < pw 96 from ⟨vld.out.pw.2, Nat.lt_of_le_of_lt (newL_le _ _ _) most_pw⟩)
            have R0' : PRow 25 W (wr.setCell ⟨g9, 1, none⟩ (.int .i64 (q.s0 + 1))) g9 (polC (bump q 0) a' n' c' b' m' d') := R.set 1 (.int .i64 (q.s0 + 1))
            have ra' := rd_setcell (i := 1) ra R.row (pol_noint _ _ _ _ _ _ _) (.int .i64 (q.s0 + 1))
            have rb' := rd_setcell (i := 1) rb R.row (pol_noint _ _ _ _ _ _ _) (.int .i64 (q.s0 + 1))
            have fr := R.free 1
            clear ra rb row1 HB R1' full sv R
            go_wp2_with fail
            have kb : (wr.setCell ⟨g9, 1, none⟩ (.int .i64 (q.s0 + 1))).cell? ⟨w.heap.size, 0, none⟩ = some (.int .i64 p.bet) := (FI.out.1.later R0'.below).cell 0 _ rfl
            have ki : (wr.setCell ⟨g9, 1, none⟩ (.int .i64 (q.s0 + 1))).cell? ⟨w1.heap.size + 1, 0, none⟩ = some (.int .i64 0) := cell_later R0'.below (FI.out.2.2.2.2 0 (by decide)) (by have := FI.out.2.2.2.1; show w1.heap.size + 1 + 0 < _; omega)
            have kf : (wr.setCell ⟨g9, 1, none⟩ (.int .i64 (q.s0 + 1))).cell? ⟨w1.heap.size, 0, none⟩ = some (.func (.func 37) #[] #[.pointer (some ⟨w.heap.size, 0, none⟩), .pointer (some ⟨w1.heap.size + 1, 0, none⟩)]) := (FI.out.2.2.1.later R0'.below).cell 0 _ rfl
            have kl := R0'.cell 4 _ rfl
            clear k0 k1 k2 k3 k4 k5 fr sv0 sv1 hcell d2
            refine wp_meet (fun u u' w' => ∃ a2 n2 c2, u' = ((((((u.put (some 64) (.int .i64 0)).put (some 65) (.pointer (some ⟨w1.heap.size, 0, none⟩))).put (some 66) (obsF w.heap.size (w1.heap.size + 1))).put (some 67) (.pointer (some ⟨g9, 4, none⟩))).put (some 68) (.slice a' n' c')).put (some 69) (.slice a2 n2 c2)).put (some 70) (.pointer (some ⟨g9, 4, none⟩)) ∧ PRow 25 W w' g9 (polC (bump q 0) a2 n2 c2 b' m' d') ∧ Rd .u32 w' a2 n2 c2 (limbs (newL q 0 L)) ∧ Rd .u32 w' b' m' d' (limbs B)) ?_ ?_
            · refine wp_region_any (by kernel_rfl) ?_
              change wpAny _ _ _ _ _ _ _ (World.drew _)
              refine wpAny_take (i := 0) (oi := ?oir14_0) (v := ?vr14_0) ?hir14_0 (by kernel_rfl) (by kernel_rfl) (by kernel_rfl) ?hqr14_0 ?hyr14_0 ?restr14_0
              case hir14_0 => simp only [List.getElem?_toArray, List.getElem?_cons_succ, List.getElem?_cons_zero]; rfl
              case hqr14_0 => exact fun _ _ _ h => h
              case hyr14_0 => (refine Or.inl ⟨by rfl, ?_⟩; intro w; go_simp; all_goals with_reducible rfl)
              try simp only [Act.put, List.setIfInBounds_toArray, List.set_cons_zero, List.set_cons_succ]
              refine wpAny_take (i := 1) (oi := ?oir14_1) (v := ?vr14_1) ?hir14_1 (by kernel_rfl) (by kernel_rfl) (by kernel_rfl) ?hqr14_1 ?hyr14_1 ?restr14_1
              case hir14_1 => simp only [List.getElem?_toArray, List.getElem?_cons_succ, List.getElem?_cons_zero]; rfl
              case hqr14_1 => exact fun _ _ _ h => h
              case hyr14_1 => (refine Or.inl ⟨by rfl, ?_⟩; intro w; go_simp; all_goals with_reducible rfl)
              try simp only [Act.put, List.setIfInBounds_toArray, List.set_cons_zero, List.set_cons_succ]
              refine wpAny_take (i := 3) (oi := ?oir14_3) (v := ?vr14_3) ?hir14_3 (by kernel_rfl) (by kernel_rfl) (by kernel_rfl) ?hqr14_3 ?hyr14_3 ?restr14_3
              case hir14_3 => simp only [List.getElem?_toArray, List.getElem?_cons_succ, List.getElem?_cons_zero]; rfl
              case hqr14_3 => exact fun _ _ _ h => h
              case hyr14_3 => (refine Or.inl ⟨by rfl, ?_⟩; intro w; go_simp; all_goals with_reducible rfl)
              try simp only [Act.put, List.setIfInBounds_toArray, List.set_cons_zero, List.set_cons_succ]
              refine wpAny_ready (rs := [2, 4]) (by kernel_rfl) (by simp) ?_
              refine (AllReady.cons (o := ?ob23_2) ?hob23_2 (fun K hK => ?kb23_2) (AllReady.cons (o := ?ob23_4) ?hob23_4 (fun K hK => ?kb23_4) AllReady.nil))
              case hob23_2 => simp only [List.getElem?_toArray, List.getElem?_cons_succ, List.getElem?_cons_zero]; rfl
              case hob23_4 => simp only [List.getElem?_toArray, List.getElem?_cons_succ, List.getElem?_cons_zero]; rfl
              case kb23_2 =>
                go_simp
                refine hK _ _ ?_
                clear hK K
                try simp only [Act.put, List.setIfInBounds_toArray, List.set_cons_zero, List.set_cons_succ]
                refine wpAny_ready (rs := [4]) (by kernel_rfl) (by simp) ?_
                refine (AllReady.cons (o := ?ob18_4) ?hob18_4 (fun K hK => ?kb18_4) AllReady.nil)
                case hob18_4 => simp only [List.getElem?_toArray, List.getElem?_cons_succ, List.getElem?_cons_zero]; rfl
                case kb18_4 =>
                  go_simp
                  refine hK _ _ ?_
                  clear hK K
                  try simp only [Act.put, List.setIfInBounds_toArray, List.set_cons_zero, List.set_cons_succ]
                  refine wpAny_ready (rs := [5]) (by kernel_rfl) (by simp) ?_
                  refine (AllReady.cons (o := ?ob17_5) ?hob17_5 (fun K hK => ?kb17_5) AllReady.nil)
                  case hob17_5 => simp only [List.getElem?_toArray, List.getElem?_cons_succ, List.getElem?_cons_zero]; rfl
                  case kb17_5 =>
                    go_simp
                    go_at_call 37
                    refine (obsFn_any _ (ra'.below (Below.refl _ _).drew) LM.out (by first | exact kb | (rw [World.cell?_drew]; exact kb)) (by first | exact ki | (rw [World.cell?_drew]; exact ki)) BT.out.1 BT.out.2 (by decide) (by decide)).mono ?_
                    rintro e2 w2 ⟨a2, n2, c2, rfl, y2, b2⟩
                    rw [EL.out] at y2
                    go_wp2_with fail
                    try simp only [Act.put, List.setIfInBounds_toArray, List.set_cons_zero, List.set_cons_succ]
                    have R3 := (R0'.later (Below.refl _ _).drew).later b2
                    have u4 := R3.cell 4 _ rfl
                    have fr4 := R3.free 4
                    refine wpAny_take (i := 6) (oi := ?oir16_6) (v := ?vr16_6) ?hir16_6 (by kernel_rfl) (by kernel_rfl) (by kernel_rfl) ?hqr16_6 ?hyr16_6 ?restr16_6
                    case hir16_6 => simp only [List.getElem?_toArray, List.getElem?_cons_succ, List.getElem?_cons_zero]; rfl
                    case hqr16_6 => exact fun _ _ _ h => h
                    case hyr16_6 => (refine Or.inl ⟨by rfl, ?_⟩; intro w; go_simp; all_goals with_reducible rfl)
                    try simp only [Act.put, List.setIfInBounds_toArray, List.set_cons_zero, List.set_cons_succ]
                    refine wpAny_ready (rs := [7]) (by kernel_rfl) (by simp) ?_
                    refine (AllReady.cons (o := ?ob15_7) ?hob15_7 (fun K hK => ?kb15_7) AllReady.nil)
                    case hob15_7 => simp only [List.getElem?_toArray, List.getElem?_cons_succ, List.getElem?_cons_zero]; rfl
                    case kb15_7 =>
                      go_simp
                      refine hK _ _ ?_
                      clear hK K
                      try simp only [Act.put, List.setIfInBounds_toArray, List.set_cons_zero, List.set_cons_succ]
                      refine wpAny_done (by kernel_rfl) ?_ _
                      exact ⟨a2, n2, c2, rfl, R3.set 4 _, rd_setcell y2 R3.row (pol_noint _ _ _ _ _ _ _) _, rd_setcell ((rb'.below (Below.refl _ _).drew).below b2) R3.row (pol_noint _ _ _ _ _ _ _) _⟩
              case kb23_4 =>
                go_simp
                refine hK _ _ ?_
                clear hK K
                try simp only [Act.put, List.setIfInBounds_toArray, List.set_cons_zero, List.set_cons_succ]
                refine wpAny_ready (rs := [2]) (by kernel_rfl) (by simp) ?_
                refine (AllReady.cons (o := ?ob22_2) ?hob22_2 (fun K hK => ?kb22_2) AllReady.nil)
                case hob22_2 => simp only [List.getElem?_toArray, List.getElem?_cons_succ, List.getElem?_cons_zero]; rfl
                case kb22_2 =>
                  go_simp
                  refine hK _ _ ?_
                  clear hK K
                  try simp only [Act.put, List.setIfInBounds_toArray, List.set_cons_zero, List.set_cons_succ]
                  refine wpAny_ready (rs := [5]) (by kernel_rfl) (by simp) ?_
                  refine (AllReady.cons (o := ?ob21_5) ?hob21_5 (fun K hK => ?kb21_5) AllReady.nil)
                  case hob21_5 => simp only [List.getElem?_toArray, List.getElem?_cons_succ, List.getElem?_cons_zero]; rfl
                  case kb21_5 =>
                    go_simp
                    go_at_call 37
                    refine (obsFn_any _ (ra'.below (Below.refl _ _).drew) LM.out (by first | exact kb | (rw [World.cell?_drew]; exact kb)) (by first | exact ki | (rw [World.cell?_drew]; exact ki)) BT.out.1 BT.out.2 (by decide) (by decide)).mono ?_
                    rintro e2 w2 ⟨a2, n2, c2, rfl, y2, b2⟩
                    rw [EL.out] at y2
                    go_wp2_with fail
                    try simp only [Act.put, List.setIfInBounds_toArray, List.set_cons_zero, List.set_cons_succ]
                    have R3 := (R0'.later (Below.refl _ _).drew).later b2
                    have u4 := R3.cell 4 _ rfl
                    have fr4 := R3.free 4
                    refine wpAny_take (i := 6) (oi := ?oir20_6) (v := ?vr20_6) ?hir20_6 (by kernel_rfl) (by kernel_rfl) (by kernel_rfl) ?hqr20_6 ?hyr20_6 ?restr20_6
                    case hir20_6 => simp only [List.getElem?_toArray, List.getElem?_cons_succ, List.getElem?_cons_zero]; rfl
                    case hqr20_6 => exact fun _ _ _ h => h
                    case hyr20_6 => (refine Or.inl ⟨by rfl, ?_⟩; intro w; go_simp; all_goals with_reducible rfl)
                    try simp only [Act.put, List.setIfInBounds_toArray, List.set_cons_zero, List.set_cons_succ]
                    refine wpAny_ready (rs := [7]) (by kernel_rfl) (by simp) ?_
                    refine (AllReady.cons (o := ?ob19_7) ?hob19_7 (fun K hK => ?kb19_7) AllReady.nil)
                    case hob19_7 => simp only [List.getElem?_toArray, List.getElem?_cons_succ, List.getElem?_cons_zero]; rfl
                    case kb19_7 =>
                      go_simp
                      refine hK _ _ ?_
                      clear hK K
                      try simp only [Act.put, List.setIfInBounds_toArray, List.set_cons_zero, List.set_cons_succ]
                      refine wpAny_done (by kernel_rfl) ?_ _
                      exact ⟨a2, n2, c2, rfl, R3.set 4 _, rd_setcell y2 R3.row (pol_noint _ _ _ _ _ _ _) _, rd_setcell ((rb'.below (Below.refl _ _).drew).below b2) R3.row (pol_noint _ _ _ _ _ _ _) _⟩
            rintro u' w3 ⟨a2, n2, c2, rfl, R3, z2, z3⟩
            simp only [Act.put, List.setIfInBounds_toArray, List.set_cons_zero, List.set_cons_succ]
            have SZ3 := Lib.hid (show n2 ≤ 1099511627776 by
              have u1 := z2.len
              have u2 := limbs_len_le LF.out.2
              omega)
            have k4 := R3.cell 4 _ rfl
            have k5 := R3.cell 5 _ rfl
            clear kb ki kf kl ra' rb' R0'
            go_wp2_with fail
            have cc := atMost_any _ z2 z3
            rw [leC_ok LF.out.2 LF.out.1] at cc
            by_cases hle : newL q 0 L ≤ B
            · rw [decide_eq_true hle] at cc
              refine cc.mono ?_
              clear cc
              rintro e1 w4 ⟨rfl, hb⟩
              have FIN : Hid (ObK W w4 g9 p vs (k + 1)) := Lib.hid ⟨step q 0, newL q 0 L, max B (newL q 0 L), a2, n2, c2, b', m', d', R3.later hb, z2.below hb, by rw [Nat.max_eq_left hle]; exact z3.below hb, HO2.out, HV.out, BET.out⟩
              clear hle R3 z2 z3 k4 k5 hb
              go_wp2_with fail
              go_roundw
              case rel => exact ⟨k + 1, by omega, by go_num, FIN.out⟩
              case measure => simp [intOf]; omega
            · rw [decide_eq_false hle] at cc
              refine cc.mono ?_
              clear cc
              rintro e1 w4 ⟨rfl, hb⟩
              have R4 := R3.later hb
              have z2 := z2.below hb
              have k4 := R4.cell 4 _ rfl
              clear R3 hb
              go_wp2_with fail
              refine (Clone_any _ z2 SZ3.out).mono ?_
              rintro e1 w5 ⟨a3, n3, c3, rfl, x3, hb⟩
              have R5 := R4.later hb
              have z2 := z2.below hb
              have k5 := R5.cell 5 _ rfl
              have fr := R5.free 5
              have FIN : Hid (ObK W (w5.setCell ⟨g9, 5, none⟩ (.slice a3 n3 c3)) g9 p vs (k + 1)) := Lib.hid ⟨step q 0, newL q 0 L, max B (newL q 0 L), a2, n2, c2, a3, n3, c3, R5.set 5 (.slice a3 n3 c3), rd_setcell z2 R5.row (pol_noint _ _ _ _ _ _ _) _, by rw [Nat.max_eq_right (by omega)]; exact rd_setcell x3 R5.row (pol_noint _ _ _ _ _ _ _) _, HO2.out, HV.out, BET.out⟩
              clear hle R4 z2 z3 x3 hb
              go_wp2_with fail
              go_roundw
              case rel => exact ⟨k + 1, by omega, by go_num, FIN.out⟩
              case measure => simp [intOf]; omega
          · have HF := Lib.hid (show seenAt q 1 = q.s1 from rfl)
            have sv := vld.out.s1
            unfold inS at sv
            have sv0 : 0 ≤ q.s1 := by omega
            by_cases full : q.s1 = 1000000
            · have e := Lib.hid (show r = (zeroP, 2) by
                rw [HR.out]
                exact obsC_none C.out (obsN_fail (k := k + 1) (by rw [obsN_snoc HO.out (by rw [HL.out]; exact hlt), ← HX.out]; exact obs1_out (.inr (.inr (by rw [HF.out]; omega))))))
              have d2 : (q.s1 == 1000000) = true := beq_iff_eq.2 full
              clear ra rb full sv sv0
              go_wp2_with (refine wpList_store_whole rfl 25 _ _ rfl atPol _ _ _ row1 rfl rfl rfl rfl (pol_one zeroP _ _ _ _ _ _) ?_)
              refine bodyPost_ret (results_cell_two rfl _ _ _ _ _ _ _ rfl (setRow_heap _ _ _ _ _ _ row1) Try.underlying25 rfl (by kernel_rfl) _ rfl) rfl ?_
              refine ⟨none, 0, 0, none, 0, 0, by rw [e.out]; rfl, ?_, ?_, HB.out _⟩
              · rw [e.out]; exact Rd.nil _ _
              · rw [e.out]; exact Rd.nil _ _
            have d2 : (q.s1 == 1000000) = false := beq_eq_false_iff_ne.2 full
            have HV := Lib.hid (step_vld vld.out (v := 1) (by decide) (by decide) (by rw [HF.out]; omega))
            have HO2 := Lib.hid (show obsN p (vs.take (k + 1)) = some (step q 1) by
              rw [obsN_snoc HO.out (by rw [HL.out]; exact hlt), ← HX.out]
              exact obs1_in (by rw [HF.out]; omega))
            have sv1 : q.s1 < 1000000 := by omega
            have LM := Lib.hid (show L ≤ mostN from Nat.le_trans vld.out.le vld.out.hi)
            have BT := Lib.hid (show 1 ≤ p.bet ∧ p.bet ≤ 999 by rw [← BET.out]; exact vld.out.bet)
            have EL := Lib.hid (show timesN L (factN p.bet 1) 1000 = newL q 1 L by unfold newL; rw [BET.out])
            have LF := Lib.hid (show B < pw 96 ∧ newL q 1 L < pw 96 from ⟨vld.out.pw.2, Nat.lt_of_le_of_lt (newL_le _ _ _) most_pw⟩)
            have R0' : PRow 25 W (wr.setCell ⟨g9, 2, none⟩ (.int .i64 (q.s1 + 1))) g9 (polC (bump q 1) a' n' c' b' m' d') := R.set 2 (.int .i64 (q.s1 + 1))
            have ra' := rd_setcell (i := 2) ra R.row (pol_noint _ _ _ _ _ _ _) (.int .i64 (q.s1 + 1))
            have rb' := rd_setcell (i := 2) rb R.row (pol_noint _ _ _ _ _ _ _) (.int .i64 (q.s1 + 1))
            have fr := R.free 2
            clear ra rb row1 HB R1' full sv R
            go_wp2_with fail
            have kb : (wr.setCell ⟨g9, 2, none⟩ (.int .i64 (q.s1 + 1))).cell? ⟨w.heap.size, 0, none⟩ = some (.int .i64 p.bet) := (FI.out.1.later R0'.below).cell 0 _ rfl
            have ki : (wr.setCell ⟨g9, 2, none⟩ (.int .i64 (q.s1 + 1))).cell? ⟨w1.heap.size + 2, 0, none⟩ = some (.int .i64 1) := cell_later R0'.below (FI.out.2.2.2.2 1 (by decide)) (by have := FI.out.2.2.2.1; show w1.heap.size + 1 + 1 < _; omega)
            have kf : (wr.setCell ⟨g9, 2, none⟩ (.int .i64 (q.s1 + 1))).cell? ⟨w1.heap.size, 1, none⟩ = some (.func (.func 37) #[] #[.pointer (some ⟨w.heap.size, 0, none⟩), .pointer (some ⟨w1.heap.size + 2, 0, none⟩)]) := (FI.out.2.2.1.later R0'.below).cell 1 _ rfl
            have kl := R0'.cell 4 _ rfl
            clear k0 k1 k2 k3 k4 k5 fr sv0 sv1 hcell d2
            refine wp_meet (fun u u' w' => ∃ a2 n2 c2, u' = ((((((u.put (some 64) (.int .i64 1)).put (some 65) (.pointer (some ⟨w1.heap.size, 1, none⟩))).put (some 66) (obsF w.heap.size (w1.heap.size + 2))).put (some 67) (.pointer (some ⟨g9, 4, none⟩))).put (some 68) (.slice a' n' c')).put (some 69) (.slice a2 n2 c2)).put (some 70) (.pointer (some ⟨g9, 4, none⟩)) ∧ PRow 25 W w' g9 (polC (bump q 1) a2 n2 c2 b' m' d') ∧ Rd .u32 w' a2 n2 c2 (limbs (newL q 1 L)) ∧ Rd .u32 w' b' m' d' (limbs B)) ?_ ?_
            · refine wp_region_any (by kernel_rfl) ?_
              change wpAny _ _ _ _ _ _ _ (World.drew _)
              refine wpAny_take (i := 0) (oi := ?oir24_0) (v := ?vr24_0) ?hir24_0 (by kernel_rfl) (by kernel_rfl) (by kernel_rfl) ?hqr24_0 ?hyr24_0 ?restr24_0
              case hir24_0 => simp only [List.getElem?_toArray, List.getElem?_cons_succ, List.getElem?_cons_zero]; rfl
              case hqr24_0 => exact fun _ _ _ h => h
              case hyr24_0 => (refine Or.inl ⟨by rfl, ?_⟩; intro w; go_simp; all_goals with_reducible rfl)
              try simp only [Act.put, List.setIfInBounds_toArray, List.set_cons_zero, List.set_cons_succ]
              refine wpAny_take (i := 1) (oi := ?oir24_1) (v := ?vr24_1) ?hir24_1 (by kernel_rfl) (by kernel_rfl) (by kernel_rfl) ?hqr24_1 ?hyr24_1 ?restr24_1
              case hir24_1 => simp only [List.getElem?_toArray, List.getElem?_cons_succ, List.getElem?_cons_zero]; rfl
              case hqr24_1 => exact fun _ _ _ h => h
              case hyr24_1 => (refine Or.inl ⟨by rfl, ?_⟩; intro w; go_simp; all_goals with_reducible rfl)
              try simp only [Act.put, List.setIfInBounds_toArray, List.set_cons_zero, List.set_cons_succ]
              refine wpAny_take (i := 3) (oi := ?oir24_3) (v := ?vr24_3) ?hir24_3 (by kernel_rfl) (by kernel_rfl) (by kernel_rfl) ?hqr24_3 ?hyr24_3 ?restr24_3
              case hir24_3 => simp only [List.getElem?_toArray, List.getElem?_cons_succ, List.getElem?_cons_zero]; rfl
              case hqr24_3 => exact fun _ _ _ h => h
              case hyr24_3 => (refine Or.inl ⟨by rfl, ?_⟩; intro w; go_simp; all_goals with_reducible rfl)
              try simp only [Act.put, List.setIfInBounds_toArray, List.set_cons_zero, List.set_cons_succ]
              refine wpAny_ready (rs := [2, 4]) (by kernel_rfl) (by simp) ?_
              refine (AllReady.cons (o := ?ob33_2) ?hob33_2 (fun K hK => ?kb33_2) (AllReady.cons (o := ?ob33_4) ?hob33_4 (fun K hK => ?kb33_4) AllReady.nil))
              case hob33_2 => simp only [List.getElem?_toArray, List.getElem?_cons_succ, List.getElem?_cons_zero]; rfl
              case hob33_4 => simp only [List.getElem?_toArray, List.getElem?_cons_succ, List.getElem?_cons_zero]; rfl
              case kb33_2 =>
                go_simp
                refine hK _ _ ?_
                clear hK K
                try simp only [Act.put, List.setIfInBounds_toArray, List.set_cons_zero, List.set_cons_succ]
                refine wpAny_ready (rs := [4]) (by kernel_rfl) (by simp) ?_
                refine (AllReady.cons (o := ?ob28_4) ?hob28_4 (fun K hK => ?kb28_4) AllReady.nil)
                case hob28_4 => simp only [List.getElem?_toArray, List.getElem?_cons_succ, List.getElem?_cons_zero]; rfl
                case kb28_4 =>
                  go_simp
                  refine hK _ _ ?_
                  clear hK K
                  try simp only [Act.put, List.setIfInBounds_toArray, List.set_cons_zero, List.set_cons_succ]
                  refine wpAny_ready (rs := [5]) (by kernel_rfl) (by simp) ?_
                  refine (AllReady.cons (o := ?ob27_5) ?hob27_5 (fun K hK => ?kb27_5) AllReady.nil)
                  case hob27_5 => simp only [List.getElem?_toArray, List.getElem?_cons_succ, List.getElem?_cons_zero]; rfl
                  case kb27_5 =>
                    go_simp
                    go_at_call 37
                    refine (obsFn_any _ (ra'.below (Below.refl _ _).drew) LM.out (by first | exact kb | (rw [World.cell?_drew]; exact kb)) (by first | exact ki | (rw [World.cell?_drew]; exact ki)) BT.out.1 BT.out.2 (by decide) (by decide)).mono ?_
                    rintro e2 w2 ⟨a2, n2, c2, rfl, y2, b2⟩
                    rw [EL.out] at y2
                    go_wp2_with fail
                    try simp only [Act.put, List.setIfInBounds_toArray, List.set_cons_zero, List.set_cons_succ]
                    have R3 := (R0'.later (Below.refl _ _).drew).later b2
                    have u4 := R3.cell 4 _ rfl
                    have fr4 := R3.free 4
                    refine wpAny_take (i := 6) (oi := ?oir26_6) (v := ?vr26_6) ?hir26_6 (by kernel_rfl) (by kernel_rfl) (by kernel_rfl) ?hqr26_6 ?hyr26_6 ?restr26_6
                    case hir26_6 => simp only [List.getElem?_toArray, List.getElem?_cons_succ, List.getElem?_cons_zero]; rfl
                    case hqr26_6 => exact fun _ _ _ h => h
                    case hyr26_6 => (refine Or.inl ⟨by rfl, ?_⟩; intro w; go_simp; all_goals with_reducible rfl)
                    try simp only [Act.put, List.setIfInBounds_toArray, List.set_cons_zero, List.set_cons_succ]
                    refine wpAny_ready (rs := [7]) (by kernel_rfl) (by simp) ?_
                    refine (AllReady.cons (o := ?ob25_7) ?hob25_7 (fun K hK => ?kb25_7) AllReady.nil)
                    case hob25_7 => simp only [List.getElem?_toArray, List.getElem?_cons_succ, List.getElem?_cons_zero]; rfl
                    case kb25_7 =>
                      go_simp
                      refine hK _ _ ?_
                      clear hK K
                      try simp only [Act.put, List.setIfInBounds_toArray, List.set_cons_zero, List.set_cons_succ]
                      refine wpAny_done (by kernel_rfl) ?_ _
                      exact ⟨a2, n2, c2, rfl, R3.set 4 _, rd_setcell y2 R3.row (pol_noint _ _ _ _ _ _ _) _, rd_setcell ((rb'.below (Below.refl _ _).drew).below b2) R3.row (pol_noint _ _ _ _ _ _ _) _⟩
              case kb33_4 =>
                go_simp
                refine hK _ _ ?_
                clear hK K
                try simp only [Act.put, List.setIfInBounds_toArray, List.set_cons_zero, List.set_cons_succ]
                refine wpAny_ready (rs := [2]) (by kernel_rfl) (by simp) ?_
                refine (AllReady.cons (o := ?ob32_2) ?hob32_2 (fun K hK => ?kb32_2) AllReady.nil)
                case hob32_2 => simp only [List.getElem?_toArray, List.getElem?_cons_succ, List.getElem?_cons_zero]; rfl
                case kb32_2 =>
                  go_simp
                  refine hK _ _ ?_
                  clear hK K
                  try simp only [Act.put, List.setIfInBounds_toArray, List.set_cons_zero, List.set_cons_succ]
                  refine wpAny_ready (rs := [5]) (by kernel_rfl) (by simp) ?_
                  refine (AllReady.cons (o := ?ob31_5) ?hob31_5 (fun K hK => ?kb31_5) AllReady.nil)
                  case hob31_5 => simp only [List.getElem?_toArray, List.getElem?_cons_succ, List.getElem?_cons_zero]; rfl
                  case kb31_5 =>
                    go_simp
                    go_at_call 37
                    refine (obsFn_any _ (ra'.below (Below.refl _ _).drew) LM.out (by first | exact kb | (rw [World.cell?_drew]; exact kb)) (by first | exact ki | (rw [World.cell?_drew]; exact ki)) BT.out.1 BT.out.2 (by decide) (by decide)).mono ?_
                    rintro e2 w2 ⟨a2, n2, c2, rfl, y2, b2⟩
                    rw [EL.out] at y2
                    go_wp2_with fail
                    try simp only [Act.put, List.setIfInBounds_toArray, List.set_cons_zero, List.set_cons_succ]
                    have R3 := (R0'.later (Below.refl _ _).drew).later b2
                    have u4 := R3.cell 4 _ rfl
                    have fr4 := R3.free 4
                    refine wpAny_take (i := 6) (oi := ?oir30_6) (v := ?vr30_6) ?hir30_6 (by kernel_rfl) (by kernel_rfl) (by kernel_rfl) ?hqr30_6 ?hyr30_6 ?restr30_6
                    case hir30_6 => simp only [List.getElem?_toArray, List.getElem?_cons_succ, List.getElem?_cons_zero]; rfl
                    case hqr30_6 => exact fun _ _ _ h => h
                    case hyr30_6 => (refine Or.inl ⟨by rfl, ?_⟩; intro w; go_simp; all_goals with_reducible rfl)
                    try simp only [Act.put, List.setIfInBounds_toArray, List.set_cons_zero, List.set_cons_succ]
                    refine wpAny_ready (rs := [7]) (by kernel_rfl) (by simp) ?_
                    refine (AllReady.cons (o := ?ob29_7) ?hob29_7 (fun K hK => ?kb29_7) AllReady.nil)
                    case hob29_7 => simp only [List.getElem?_toArray, List.getElem?_cons_succ, List.getElem?_cons_zero]; rfl
                    case kb29_7 =>
                      go_simp
                      refine hK _ _ ?_
                      clear hK K
                      try simp only [Act.put, List.setIfInBounds_toArray, List.set_cons_zero, List.set_cons_succ]
                      refine wpAny_done (by kernel_rfl) ?_ _
                      exact ⟨a2, n2, c2, rfl, R3.set 4 _, rd_setcell y2 R3.row (pol_noint _ _ _ _ _ _ _) _, rd_setcell ((rb'.below (Below.refl _ _).drew).below b2) R3.row (pol_noint _ _ _ _ _ _ _) _⟩
            rintro u' w3 ⟨a2, n2, c2, rfl, R3, z2, z3⟩
            simp only [Act.put, List.setIfInBounds_toArray, List.set_cons_zero, List.set_cons_succ]
            have SZ3 := Lib.hid (show n2 ≤ 1099511627776 by
              have u1 := z2.len
              have u2 := limbs_len_le LF.out.2
              omega)
            have k4 := R3.cell 4 _ rfl
            have k5 := R3.cell 5 _ rfl
            clear kb ki kf kl ra' rb' R0'
            go_wp2_with fail
            have cc := atMost_any _ z2 z3
            rw [leC_ok LF.out.2 LF.out.1] at cc
            by_cases hle : newL q 1 L ≤ B
            · rw [decide_eq_true hle] at cc
              refine cc.mono ?_
              clear cc
              rintro e1 w4 ⟨rfl, hb⟩
              have FIN : Hid (ObK W w4 g9 p vs (k + 1)) := Lib.hid ⟨step q 1, newL q 1 L, max B (newL q 1 L), a2, n2, c2, b', m', d', R3.later hb, z2.below hb, by rw [Nat.max_eq_left hle]; exact z3.below hb, HO2.out, HV.out, BET.out⟩
              clear hle R3 z2 z3 k4 k5 hb
              go_wp2_with fail
              go_roundw
              case rel => exact ⟨k + 1, by omega, by go_num, FIN.out⟩
              case measure => simp [intOf]; omega
            · rw [decide_eq_false hle] at cc
              refine cc.mono ?_
              clear cc
              rintro e1 w4 ⟨rfl, hb⟩
              have R4 := R3.later hb
              have z2 := z2.below hb
              have k4 := R4.cell 4 _ rfl
              clear R3 hb
              go_wp2_with fail
              refine (Clone_any _ z2 SZ3.out).mono ?_
              rintro e1 w5 ⟨a3, n3, c3, rfl, x3, hb⟩
              have R5 := R4.later hb
              have z2 := z2.below hb
              have k5 := R5.cell 5 _ rfl
              have fr := R5.free 5
              have FIN : Hid (ObK W (w5.setCell ⟨g9, 5, none⟩ (.slice a3 n3 c3)) g9 p vs (k + 1)) := Lib.hid ⟨step q 1, newL q 1 L, max B (newL q 1 L), a2, n2, c2, a3, n3, c3, R5.set 5 (.slice a3 n3 c3), rd_setcell z2 R5.row (pol_noint _ _ _ _ _ _ _) _, by rw [Nat.max_eq_right (by omega)]; exact rd_setcell x3 R5.row (pol_noint _ _ _ _ _ _ _) _, HO2.out, HV.out, BET.out⟩
              clear hle R4 z2 z3 x3 hb
              go_wp2_with fail
              go_roundw
              case rel => exact ⟨k + 1, by omega, by go_num, FIN.out⟩
              case measure => simp [intOf]; omega
          · have HF := Lib.hid (show seenAt q 2 = q.s2 from rfl)
            have sv := vld.out.s2
            unfold inS at sv
            have sv0 : 0 ≤ q.s2 := by omega
            by_cases full : q.s2 = 1000000
            · have e := Lib.hid (show r = (zeroP, 2) by
                rw [HR.out]
                exact obsC_none C.out (obsN_fail (k := k + 1) (by rw [obsN_snoc HO.out (by rw [HL.out]; exact hlt), ← HX.out]; exact obs1_out (.inr (.inr (by rw [HF.out]; omega))))))
              have d2 : (q.s2 == 1000000) = true := beq_iff_eq.2 full
              clear ra rb full sv sv0
              go_wp2_with (refine wpList_store_whole rfl 25 _ _ rfl atPol _ _ _ row1 rfl rfl rfl rfl (pol_one zeroP _ _ _ _ _ _) ?_)
              refine bodyPost_ret (results_cell_two rfl _ _ _ _ _ _ _ rfl (setRow_heap _ _ _ _ _ _ row1) Try.underlying25 rfl (by kernel_rfl) _ rfl) rfl ?_
              refine ⟨none, 0, 0, none, 0, 0, by rw [e.out]; rfl, ?_, ?_, HB.out _⟩
              · rw [e.out]; exact Rd.nil _ _
              · rw [e.out]; exact Rd.nil _ _
            have d2 : (q.s2 == 1000000) = false := beq_eq_false_iff_ne.2 full
            have HV := Lib.hid (step_vld vld.out (v := 2) (by decide) (by decide) (by rw [HF.out]; omega))
            have HO2 := Lib.hid (show obsN p (vs.take (k + 1)) = some (step q 2) by
              rw [obsN_snoc HO.out (by rw [HL.out]; exact hlt), ← HX.out]
              exact obs1_in (by rw [HF.out]; omega))
            have sv1 : q.s2 < 1000000 := by omega
            have LM := Lib.hid (show L ≤ mostN from Nat.le_trans vld.out.le vld.out.hi)
            have BT := Lib.hid (show 1 ≤ p.bet ∧ p.bet ≤ 999 by rw [← BET.out]; exact vld.out.bet)
            have EL := Lib.hid (show timesN L (factN p.bet 2) 1000 = newL q 2 L by unfold newL; rw [BET.out])
            have LF := Lib.hid (show B < pw 96 ∧ newL q 2 L < pw 96 from ⟨vld.out.pw.2, Nat.lt_of_le_of_lt (newL_le _ _ _) most_pw⟩)
            have R0' : PRow 25 W (wr.setCell ⟨g9, 3, none⟩ (.int .i64 (q.s2 + 1))) g9 (polC (bump q 2) a' n' c' b' m' d') := R.set 3 (.int .i64 (q.s2 + 1))
            have ra' := rd_setcell (i := 3) ra R.row (pol_noint _ _ _ _ _ _ _) (.int .i64 (q.s2 + 1))
            have rb' := rd_setcell (i := 3) rb R.row (pol_noint _ _ _ _ _ _ _) (.int .i64 (q.s2 + 1))
            have fr := R.free 3
            clear ra rb row1 HB R1' full sv R
            go_wp2_with fail
            have kb : (wr.setCell ⟨g9, 3, none⟩ (.int .i64 (q.s2 + 1))).cell? ⟨w.heap.size, 0, none⟩ = some (.int .i64 p.bet) := (FI.out.1.later R0'.below).cell 0 _ rfl
            have ki : (wr.setCell ⟨g9, 3, none⟩ (.int .i64 (q.s2 + 1))).cell? ⟨w1.heap.size + 3, 0, none⟩ = some (.int .i64 2) := cell_later R0'.below (FI.out.2.2.2.2 2 (by decide)) (by have := FI.out.2.2.2.1; show w1.heap.size + 1 + 2 < _; omega)
            have kf : (wr.setCell ⟨g9, 3, none⟩ (.int .i64 (q.s2 + 1))).cell? ⟨w1.heap.size, 2, none⟩ = some (.func (.func 37) #[] #[.pointer (some ⟨w.heap.size, 0, none⟩), .pointer (some ⟨w1.heap.size + 3, 0, none⟩)]) := (FI.out.2.2.1.later R0'.below).cell 2 _ rfl
            have kl := R0'.cell 4 _ rfl
            clear k0 k1 k2 k3 k4 k5 fr sv0 sv1 hcell d2
            refine wp_meet (fun u u' w' => ∃ a2 n2 c2, u' = ((((((u.put (some 64) (.int .i64 2)).put (some 65) (.pointer (some ⟨w1.heap.size, 2, none⟩))).put (some 66) (obsF w.heap.size (w1.heap.size + 3))).put (some 67) (.pointer (some ⟨g9, 4, none⟩))).put (some 68) (.slice a' n' c')).put (some 69) (.slice a2 n2 c2)).put (some 70) (.pointer (some ⟨g9, 4, none⟩)) ∧ PRow 25 W w' g9 (polC (bump q 2) a2 n2 c2 b' m' d') ∧ Rd .u32 w' a2 n2 c2 (limbs (newL q 2 L)) ∧ Rd .u32 w' b' m' d' (limbs B)) ?_ ?_
            · refine wp_region_any (by kernel_rfl) ?_
              change wpAny _ _ _ _ _ _ _ (World.drew _)
              refine wpAny_take (i := 0) (oi := ?oir34_0) (v := ?vr34_0) ?hir34_0 (by kernel_rfl) (by kernel_rfl) (by kernel_rfl) ?hqr34_0 ?hyr34_0 ?restr34_0
              case hir34_0 => simp only [List.getElem?_toArray, List.getElem?_cons_succ, List.getElem?_cons_zero]; rfl
              case hqr34_0 => exact fun _ _ _ h => h
              case hyr34_0 => (refine Or.inl ⟨by rfl, ?_⟩; intro w; go_simp; all_goals with_reducible rfl)
              try simp only [Act.put, List.setIfInBounds_toArray, List.set_cons_zero, List.set_cons_succ]
              refine wpAny_take (i := 1) (oi := ?oir34_1) (v := ?vr34_1) ?hir34_1 (by kernel_rfl) (by kernel_rfl) (by kernel_rfl) ?hqr34_1 ?hyr34_1 ?restr34_1
              case hir34_1 => simp only [List.getElem?_toArray, List.getElem?_cons_succ, List.getElem?_cons_zero]; rfl
              case hqr34_1 => exact fun _ _ _ h => h
              case hyr34_1 => (refine Or.inl ⟨by rfl, ?_⟩; intro w; go_simp; all_goals with_reducible rfl)
              try simp only [Act.put, List.setIfInBounds_toArray, List.set_cons_zero, List.set_cons_succ]
              refine wpAny_take (i := 3) (oi := ?oir34_3) (v := ?vr34_3) ?hir34_3 (by kernel_rfl) (by kernel_rfl) (by kernel_rfl) ?hqr34_3 ?hyr34_3 ?restr34_3
              case hir34_3 => simp only [List.getElem?_toArray, List.getElem?_cons_succ, List.getElem?_cons_zero]; rfl
              case hqr34_3 => exact fun _ _ _ h => h
              case hyr34_3 => (refine Or.inl ⟨by rfl, ?_⟩; intro w; go_simp; all_goals with_reducible rfl)
              try simp only [Act.put, List.setIfInBounds_toArray, List.set_cons_zero, List.set_cons_succ]
              refine wpAny_ready (rs := [2, 4]) (by kernel_rfl) (by simp) ?_
              refine (AllReady.cons (o := ?ob43_2) ?hob43_2 (fun K hK => ?kb43_2) (AllReady.cons (o := ?ob43_4) ?hob43_4 (fun K hK => ?kb43_4) AllReady.nil))
              case hob43_2 => simp only [List.getElem?_toArray, List.getElem?_cons_succ, List.getElem?_cons_zero]; rfl
              case hob43_4 => simp only [List.getElem?_toArray, List.getElem?_cons_succ, List.getElem?_cons_zero]; rfl
              case kb43_2 =>
                go_simp
                refine hK _ _ ?_
                clear hK K
                try simp only [Act.put, List.setIfInBounds_toArray, List.set_cons_zero, List.set_cons_succ]
                refine wpAny_ready (rs := [4]) (by kernel_rfl) (by simp) ?_
                refine (AllReady.cons (o := ?ob38_4) ?hob38_4 (fun K hK => ?kb38_4) AllReady.nil)
                case hob38_4 => simp only [List.getElem?_toArray, List.getElem?_cons_succ, List.getElem?_cons_zero]; rfl
                case kb38_4 =>
                  go_simp
                  refine hK _ _ ?_
                  clear hK K
                  try simp only [Act.put, List.setIfInBounds_toArray, List.set_cons_zero, List.set_cons_succ]
                  refine wpAny_ready (rs := [5]) (by kernel_rfl) (by simp) ?_
                  refine (AllReady.cons (o := ?ob37_5) ?hob37_5 (fun K hK => ?kb37_5) AllReady.nil)
                  case hob37_5 => simp only [List.getElem?_toArray, List.getElem?_cons_succ, List.getElem?_cons_zero]; rfl
                  case kb37_5 =>
                    go_simp
                    go_at_call 37
                    refine (obsFn_any _ (ra'.below (Below.refl _ _).drew) LM.out (by first | exact kb | (rw [World.cell?_drew]; exact kb)) (by first | exact ki | (rw [World.cell?_drew]; exact ki)) BT.out.1 BT.out.2 (by decide) (by decide)).mono ?_
                    rintro e2 w2 ⟨a2, n2, c2, rfl, y2, b2⟩
                    rw [EL.out] at y2
                    go_wp2_with fail
                    try simp only [Act.put, List.setIfInBounds_toArray, List.set_cons_zero, List.set_cons_succ]
                    have R3 := (R0'.later (Below.refl _ _).drew).later b2
                    have u4 := R3.cell 4 _ rfl
                    have fr4 := R3.free 4
                    refine wpAny_take (i := 6) (oi := ?oir36_6) (v := ?vr36_6) ?hir36_6 (by kernel_rfl) (by kernel_rfl) (by kernel_rfl) ?hqr36_6 ?hyr36_6 ?restr36_6
                    case hir36_6 => simp only [List.getElem?_toArray, List.getElem?_cons_succ, List.getElem?_cons_zero]; rfl
                    case hqr36_6 => exact fun _ _ _ h => h
                    case hyr36_6 => (refine Or.inl ⟨by rfl, ?_⟩; intro w; go_simp; all_goals with_reducible rfl)
                    try simp only [Act.put, List.setIfInBounds_toArray, List.set_cons_zero, List.set_cons_succ]
                    refine wpAny_ready (rs := [7]) (by kernel_rfl) (by simp) ?_
                    refine (AllReady.cons (o := ?ob35_7) ?hob35_7 (fun K hK => ?kb35_7) AllReady.nil)
                    case hob35_7 => simp only [List.getElem?_toArray, List.getElem?_cons_succ, List.getElem?_cons_zero]; rfl
                    case kb35_7 =>
                      go_simp
                      refine hK _ _ ?_
                      clear hK K
                      try simp only [Act.put, List.setIfInBounds_toArray, List.set_cons_zero, List.set_cons_succ]
                      refine wpAny_done (by kernel_rfl) ?_ _
                      exact ⟨a2, n2, c2, rfl, R3.set 4 _, rd_setcell y2 R3.row (pol_noint _ _ _ _ _ _ _) _, rd_setcell ((rb'.below (Below.refl _ _).drew).below b2) R3.row (pol_noint _ _ _ _ _ _ _) _⟩
              case kb43_4 =>
                go_simp
                refine hK _ _ ?_
                clear hK K
                try simp only [Act.put, List.setIfInBounds_toArray, List.set_cons_zero, List.set_cons_succ]
                refine wpAny_ready (rs := [2]) (by kernel_rfl) (by simp) ?_
                refine (AllReady.cons (o := ?ob42_2) ?hob42_2 (fun K hK => ?kb42_2) AllReady.nil)
                case hob42_2 => simp only [List.getElem?_toArray, List.getElem?_cons_succ, List.getElem?_cons_zero]; rfl
                case kb42_2 =>
                  go_simp
                  refine hK _ _ ?_
                  clear hK K
                  try simp only [Act.put, List.setIfInBounds_toArray, List.set_cons_zero, List.set_cons_succ]
                  refine wpAny_ready (rs := [5]) (by kernel_rfl) (by simp) ?_
                  refine (AllReady.cons (o := ?ob41_5) ?hob41_5 (fun K hK => ?kb41_5) AllReady.nil)
                  case hob41_5 => simp only [List.getElem?_toArray, List.getElem?_cons_succ, List.getElem?_cons_zero]; rfl
                  case kb41_5 =>
                    go_simp
                    go_at_call 37
                    refine (obsFn_any _ (ra'.below (Below.refl _ _).drew) LM.out (by first | exact kb | (rw [World.cell?_drew]; exact kb)) (by first | exact ki | (rw [World.cell?_drew]; exact ki)) BT.out.1 BT.out.2 (by decide) (by decide)).mono ?_
                    rintro e2 w2 ⟨a2, n2, c2, rfl, y2, b2⟩
                    rw [EL.out] at y2
                    go_wp2_with fail
                    try simp only [Act.put, List.setIfInBounds_toArray, List.set_cons_zero, List.set_cons_succ]
                    have R3 := (R0'.later (Below.refl _ _).drew).later b2
                    have u4 := R3.cell 4 _ rfl
                    have fr4 := R3.free 4
                    refine wpAny_take (i := 6) (oi := ?oir40_6) (v := ?vr40_6) ?hir40_6 (by kernel_rfl) (by kernel_rfl) (by kernel_rfl) ?hqr40_6 ?hyr40_6 ?restr40_6
                    case hir40_6 => simp only [List.getElem?_toArray, List.getElem?_cons_succ, List.getElem?_cons_zero]; rfl
                    case hqr40_6 => exact fun _ _ _ h => h
                    case hyr40_6 => (refine Or.inl ⟨by rfl, ?_⟩; intro w; go_simp; all_goals with_reducible rfl)
                    try simp only [Act.put, List.setIfInBounds_toArray, List.set_cons_zero, List.set_cons_succ]
                    refine wpAny_ready (rs := [7]) (by kernel_rfl) (by simp) ?_
                    refine (AllReady.cons (o := ?ob39_7) ?hob39_7 (fun K hK => ?kb39_7) AllReady.nil)
                    case hob39_7 => simp only [List.getElem?_toArray, List.getElem?_cons_succ, List.getElem?_cons_zero]; rfl
                    case kb39_7 =>
                      go_simp
                      refine hK _ _ ?_
                      clear hK K
                      try simp only [Act.put, List.setIfInBounds_toArray, List.set_cons_zero, List.set_cons_succ]
                      refine wpAny_done (by kernel_rfl) ?_ _
                      exact ⟨a2, n2, c2, rfl, R3.set 4 _, rd_setcell y2 R3.row (pol_noint _ _ _ _ _ _ _) _, rd_setcell ((rb'.below (Below.refl _ _).drew).below b2) R3.row (pol_noint _ _ _ _ _ _ _) _⟩
            rintro u' w3 ⟨a2, n2, c2, rfl, R3, z2, z3⟩
            simp only [Act.put, List.setIfInBounds_toArray, List.set_cons_zero, List.set_cons_succ]
            have SZ3 := Lib.hid (show n2 ≤ 1099511627776 by
              have u1 := z2.len
              have u2 := limbs_len_le LF.out.2
              omega)
            have k4 := R3.cell 4 _ rfl
            have k5 := R3.cell 5 _ rfl
            clear kb ki kf kl ra' rb' R0'
            go_wp2_with fail
            have cc := atMost_any _ z2 z3
            rw [leC_ok LF.out.2 LF.out.1] at cc
            by_cases hle : newL q 2 L ≤ B
            · rw [decide_eq_true hle] at cc
              refine cc.mono ?_
              clear cc
              rintro e1 w4 ⟨rfl, hb⟩
              have FIN : Hid (ObK W w4 g9 p vs (k + 1)) := Lib.hid ⟨step q 2, newL q 2 L, max B (newL q 2 L), a2, n2, c2, b', m', d', R3.later hb, z2.below hb, by rw [Nat.max_eq_left hle]; exact z3.below hb, HO2.out, HV.out, BET.out⟩
              clear hle R3 z2 z3 k4 k5 hb
              go_wp2_with fail
              go_roundw
              case rel => exact ⟨k + 1, by omega, by go_num, FIN.out⟩
              case measure => simp [intOf]; omega
            · rw [decide_eq_false hle] at cc
              refine cc.mono ?_
              clear cc
              rintro e1 w4 ⟨rfl, hb⟩
              have R4 := R3.later hb
              have z2 := z2.below hb
              have k4 := R4.cell 4 _ rfl
              clear R3 hb
              go_wp2_with fail
              refine (Clone_any _ z2 SZ3.out).mono ?_
              rintro e1 w5 ⟨a3, n3, c3, rfl, x3, hb⟩
              have R5 := R4.later hb
              have z2 := z2.below hb
              have k5 := R5.cell 5 _ rfl
              have fr := R5.free 5
              have FIN : Hid (ObK W (w5.setCell ⟨g9, 5, none⟩ (.slice a3 n3 c3)) g9 p vs (k + 1)) := Lib.hid ⟨step q 2, newL q 2 L, max B (newL q 2 L), a2, n2, c2, a3, n3, c3, R5.set 5 (.slice a3 n3 c3), rd_setcell z2 R5.row (pol_noint _ _ _ _ _ _ _) _, by rw [Nat.max_eq_right (by omega)]; exact rd_setcell x3 R5.row (pol_noint _ _ _ _ _ _ _) _, HO2.out, HV.out, BET.out⟩
              clear hle R4 z2 z3 x3 hb
              go_wp2_with fail
              go_roundw
              case rel => exact ⟨k + 1, by omega, by go_num, FIN.out⟩
              case measure => simp [intOf]; omega
        · obtain rfl : k = nv := by omega
          have e := Lib.hid (show r = (q, 0) by
            rw [HR.out]
            exact obsC_some C.out (by rw [← HO.out, List.take_of_length_le (by rw [HL.out]; exact Nat.le_refl _)]))
          have fin := Lib.hid (fun cs => (⟨rd_rowset ra row1 (pol_noint zeroP _ _ _ _ _ _) cs, rd_rowset rb row1 (pol_noint zeroP _ _ _ _ _ _) cs⟩ : _ ∧ _))
          clear ra rb
          go_wp2_with (refine wpList_store_whole rfl 25 _ _ rfl atPol _ _ _ row1 rfl rfl rfl rfl (pol_one q _ _ _ _ _ _) ?_)
          refine bodyPost_ret (results_cell_two rfl _ _ _ _ _ _ _ rfl (setRow_heap _ _ _ _ _ _ row1) Try.underlying25 rfl (by kernel_rfl) _ rfl) rfl ?_
          refine ⟨a', n', c', b', m', d', by rw [e.out]; rfl, ?_, ?_, HB.out _⟩
          · rw [e.out, vld.out.lev]; exact (fin.out _).1
          · rw [e.out, vld.out.best]; exact (fin.out _).2

end Go.Proofs.Ytkomdiblopdfiaa
