/- What Split of octet computes: its iterator and its loop over it. Conditions: the lengths that the laws allow. -/
import Derived.Test.YtnjkfjecnicccaaOctetE
import Derived.RangeFuncNested
import Derived.RangeFuncBound
import Derived.RangeFuncCalls
import Derived.RangeFuncLeaves
import Derived.Shelf.Abstract
import Derived.OwnWalkIn
import Derived.TacticsInMore
import Derived.LoopNIn
import Derived.LoopIn
namespace Go.Proofs.Ytnjkfjecnicccaa
open Go.RowKit Go.Suf Go.Shelf

attribute [local go_sem] Oper.semAt_some

set_option maxRecDepth 100000 in
set_option maxHeartbeats 1000000 in
/-- The iterator: it takes a field, yields it, goes on while the loop does. -/
theorem fields1_in (w : World) (l Bn nn base : Nat) {a : Option Addr} {n cap : Nat} {xs : List Nat} (h : Rd .u8 w a n cap xs) (hn : n ≤ 1099511627776) (J : Nat → World → Prop) (Jx : World → Prop)
    (hJ : ∀ i W W', J i W → Below W.heap.size W W' → J i W') (hJB : ∀ i W, J i W → W.cell? ⟨Bn, 0, none⟩ = some (.slice a n cap) ∧ Below w.heap.size w W ∧ base ≤ W.heap.size)
    (hY : ∀ (i : Nat) (W1 : World) (a' : Option Addr) (m c' : Nat), i < n → J i W1 → Ow .u8 5 base W1 a' m c' (takeFieldX xs i).1 →
      YieldAt Fence.wide (nn - 1) Try.prog l #[.slice a' m c', .int .i64 (takeFieldX xs i).2.2] W1 fun e W' =>
        ((takeFieldX xs i).2.2 = 0 ∧ e = .returned (.bool true) ∧ J (takeFieldX xs i).2.1.toNat W') ∨ (¬ (takeFieldX xs i).2.2 = 0 ∧ e = .returned (.bool false) ∧ Jx W'))
    (W : World) (h0 : J 0 W) :
    CallsIn Fence.wide nn Try.prog 62 #[.func (.yield l) #[] #[], .pointer (some ⟨Bn, 0, none⟩)] W fun e W' => (∃ v, e = .returned v) ∧ ((∃ i, n ≤ i ∧ J i W') ∨ Jx W') := by
  have HL := Lib.hid h.len
  refine callsIn_of_wp Try.func62 rfl trivial ?_ rfl
  simp only [Try.ntmps62, List.size_toArray, List.length_cons, List.length_nil, Nat.reduceAdd, Nat.reduceSub, Array.replicate_succ, Array.replicate_zero, List.push_toArray, List.append_toArray, List.nil_append, List.cons_append]
  gi_wp2
  gi_loopw [3] (fun j wr => ∃ i : Nat, i ≤ n ∧ j = .int .i64 (i : Nat) ∧ Hid (J i wr)) (fun j _ => n - (intOf j).toNat)
  case atStart => exact ⟨0, Nat.zero_le _, rfl, Lib.hid h0⟩
  case round =>
    obtain ⟨i, hi, rfl, hj⟩ := hrel
    obtain ⟨hb, hbl, hbase⟩ := hJB i wr hj.out
    by_cases hlt : i < n
    · have hr := h.below hbl
      have C := callsIn_wide (n := nn - 1) (P := Try.prog).2 (TakeField_any wr hr i (by omega) (by omega) hn)
      gi_wp2_with fail
      refine ⟨trivial, fun hd => (by cases hd), C.mono ?_⟩
      clear C
      rintro e w2 ⟨a2, n2, c2, rfl, ho2, hb2⟩
      have hj2 := hJ i wr w2 hj.out hb2
      obtain ⟨fn, tmps, assign, body, hy, hR⟩ := hY i w2 a2 n2 c2 hlt hj2 (ho2.base_le hbase)
      by_cases he : (takeFieldX xs i).2.2 = 0
      · obtain ⟨q, hq, hq1, hq2⟩ := takeFieldX_ok xs i he
        have HE := Lib.hid he
        have HQ := Lib.hid hq
        have hqn : q ≤ n := by have := HL.out; omega
        rw [he] at hy
        rw [hq, he]
        clear he hq hq2 hj2
        gi_wp2
        refine ⟨fun hd => (by cases hd), hR.mono ?_⟩
        rintro e W3 (⟨_, rfl, hJ3⟩ | ⟨hne, _⟩)
        · rw [HQ.out, Int.toNat_natCast] at hJ3
          have HJ3 := Lib.hid hJ3
          clear hJ3
          gi_wp2
          go_roundw
          case rel => exact ⟨q, hqn, rfl, HJ3⟩
          case measure => simp [intOf]; omega
        · exact absurd HE.out hne
      · have HE : ((takeFieldX xs i).2.2 == 0) = false := by simpa using he
        have HN := Lib.hid he
        clear he hj2
        gi_wp2
        refine ⟨fun hd => (by cases hd), hR.mono ?_⟩
        rintro e W3 (⟨h0', _⟩ | ⟨_, rfl, hJ3⟩)
        · exact absurd h0' HN.out
        · have HJ3 := Lib.hid hJ3
          clear hJ3
          gi_wp2
          refine bodyPost_ret (results_none rfl _ _ _) rfl ?_
          exact ⟨⟨_, rfl⟩, .inr HJ3.out⟩
    · obtain rfl : i = n := by omega
      gi_wp2
      go_end0
      exact ⟨⟨_, rfl⟩, .inl ⟨i, Nat.le_refl _, hj.out⟩⟩

set_option maxHeartbeats 1000000 in
/-- The iterator's maker: it boxes the bytes. -/
theorem fields_in (w : World) (nn : Nat) (a : Option Addr) (n cap : Nat) :
    CallsIn Fence.wide nn Try.prog 50 #[.slice a n cap] w fun e w' => e = .returned (.func (.func 62) #[] #[.pointer (some ⟨w.heap.size, 0, none⟩)]) ∧ w' = w.alloc (.cells #[.slice a n cap] 34) := by
  refine callsIn_of_wp Try.func50 rfl trivial ?_ rfl
  simp only [Try.ntmps50, List.size_toArray, List.length_cons, List.length_nil, Nat.reduceAdd, Nat.reduceSub, Array.replicate_succ, Array.replicate_zero, List.push_toArray, List.append_toArray, List.nil_append, List.cons_append]
  gi_wp2
  go_ret
  exact ⟨rfl, rfl⟩

theorem run_resolve1 {P : Program} (a : Act) (g : Operand) (l : Nat) {gf : Nat} {lb : Array Value} {w : World} (hg : a.eval g = .func (.func gf) #[] lb) :
    (resolve a.eval (rangeCall g l) 0).run P w = .ok { target := .fn (.func gf) lb, args := #[.func (.yield l) #[] #[]] } w := by
  simp only [resolve, hg]
  simp [go_sem]

theorem run_invoke1 {P : Program} {gf : Nat} (eg : ∀ args w, (callFunc gf args).run P w = .ok (.enter gf args) w) (l : Nat) (x : Value) (w : World) :
    (invoke (.fn (.func gf) #[x]) #[.func (.yield l) #[] #[]]).run P w = .ok (.enter gf #[.func (.yield l) #[] #[], x]) w := by
  simp [invoke, go_sem, eg]

/-- Between two rounds: what the loop's own blocks hold. -/
def SplitJ (xs : List Nat) (w : World) (a : Option Addr) (n cap : Nat) (l : Nat) (L : Obj) (i : Nat) (W : World) : Prop :=
  ∃ f k a' c' out, n - i < f ∧ k ≤ i ∧ i ≤ n ∧ splitX xs = splitF xs f i out ∧ OwL (w.heap.size + 3) W a' k c' out ∧
    W.heap[w.heap.size]? = some (.cells #[.slice a' k c'] 63 (0, 0)) ∧ W.heap[w.heap.size + 1]? = some (.cells #[.int .i64 0] 25 (0, 0)) ∧
    W.heap[w.heap.size + 2]? = some (.cells #[.slice a n cap] 34 (0, 0)) ∧ W.heap[w.heap.size + 3]? = some (.deferred (some [])) ∧ W.heap[l]? = some L ∧ Below w.heap.size w W

/-- Behind a round that has left the function. -/
def SplitX (xs : List Nat) (w : World) (l : Nat) (L : Obj) (W : World) : Prop :=
  ∃ e : Int, splitX xs = ([], e) ∧ W.heap[w.heap.size]? = some (.cells #[.slice none 0 0] 63 (0, 0)) ∧ W.heap[w.heap.size + 1]? = some (.cells #[.int .i64 e] 25 (0, 0)) ∧
    W.heap[w.heap.size + 3]? = some (.deferred (some [])) ∧ W.heap[l]? = some L ∧ Below w.heap.size w W

theorem heap_below {w w' : World} {k : Nat} {o : Obj} (hb : Below w.heap.size w w') (h : w.heap[k]? = some o) : w'.heap[k]? = some o :=
  (hb.block k (Array.getElem?_eq_some_iff.1 h).1).trans h

theorem SplitJ.below {xs : List Nat} {w : World} {a : Option Addr} {n cap l : Nat} {L : Obj} {i : Nat} {W W' : World} (h : SplitJ xs w a n cap l L i W) (hb : Below W.heap.size W W') : SplitJ xs w a n cap l L i W' := by
  obtain ⟨f, k, a', c', out, h1, h2, h3, h4, h5, h6, h7, h8, h9, h10, h11⟩ := h
  exact ⟨f, k, a', c', out, h1, h2, h3, h4, h5.below hb, heap_below hb h6, heap_below hb h7, heap_below hb h8, heap_below hb h9, heap_below hb h10, h11.trans (hb.mono h11.size)⟩

theorem grown_heap {W w1 : World} {o x : Obj} {row : Option Nat} {k B : Nat} (hg : (W.alloc o).grownBy w1 row) (h : W.heap[k]? = some x) (hr : ∀ j, row = some j → B ≤ j) (hk : k < B) : w1.heap[k]? = some x := by
  have hlt := (Array.getElem?_eq_some_iff.1 h).1
  rw [hg.block k (by simp; omega) (fun e => by have := hr k e.symm; omega)]
  exact (Below.heap_alloc W o k hlt).trans h

theorem grown_heap2 {W w1 : World} {o x : Obj} {row : Option Nat} {k : Nat} (hg : (W.alloc o).grownBy w1 row) (h : W.heap[k]? = some x) (hr : ∀ j, row = some j → W.heap[j]? ≠ some x) : w1.heap[k]? = some x := by
  have hlt := (Array.getElem?_eq_some_iff.1 h).1
  rw [hg.block k (by simp; omega) (fun e => hr k e.symm h)]
  exact (Below.heap_alloc W o k hlt).trans h

/-- An owned row's block is one of cells. -/
theorem own_cells {w : World} {base : Nat} {e : TypeId} {v : Value} {n : Nat} {xs : List Value} (h : w.ownsRow base e 1 v n xs) : ∀ j, v.ownBlock = some j → ∃ c, w.heap[j]? = some (.cells c e (0, 0)) := by
  intro j hj
  rcases h.2 with ⟨rfl, _⟩ | ⟨g, cap, cur, rfl, _, hh, _⟩
  · simp [Value.ownBlock] at hj
  · simp [Value.ownBlock] at hj
    subst hj
    exact ⟨cur, hh⟩

/-- All blocks of cells whose elements are of a type that p lets are as they were. -/
def KeepE (p : TypeId → Prop) (W W' : World) : Prop := ∀ (k : Nat) (c : Array Value) (e : TypeId) (f : Nat × Nat), p e → W.heap[k]? = some (.cells c e f) → W'.heap[k]? = some (.cells c e f)

theorem own_keepE {p : TypeId → Prop} {W W' : World} {base : Nat} {e : TypeId} {v : Value} {n : Nat} {xs : List Value} (hp : p e) (hk : KeepE p W W') (h : W.ownsRow base e 1 v n xs) : W'.ownsRow base e 1 v n xs := by
  refine ⟨h.1, ?_⟩
  rcases h.2 with hn | ⟨g, cap, cur, hv, hb, hg, r⟩
  · exact .inl hn
  · exact .inr ⟨g, cap, cur, hv, hb, hk g cur e _ hp hg, r⟩

theorem OwL.keepE {p : TypeId → Prop} {W W' : World} {base : Nat} {a : Option Addr} {n cap : Nat} {xss : List (List Nat)} (h1 : p 34) (h2 : p 5) (hk : KeepE p W W') (h : OwL base W a n cap xss) : OwL base W' a n cap xss := by
  obtain ⟨vs, hv, ho, hi⟩ := h.row
  exact ⟨h.len, vs, own_keepE h1 hk hv, ho, fun i hn => by
    obtain ⟨b, m, c, e1, e2⟩ := hi i hn
    exact ⟨b, m, c, e1, e2.len, own_keepE h2 hk e2.own, e2.bd⟩⟩

theorem keepE_put {p : TypeId → Prop} {W : World} {l : Nat} {o o' : Obj} (h : W.heap[l]? = some o) (ho : o.isCells = false) : KeepE p W (W.putObj l o') := by
  intro k c e f _ hk
  by_cases hkl : k = l
  · subst hkl
    rw [h] at hk
    simp at hk
    subst hk
    simp [Obj.isCells] at ho
  · exact (World.putObj_heap_other hkl).trans hk

theorem keepE_store {W : World} {g i : Nat} {cur : Array Value} {t : TypeId} (hh : W.heap[g]? = some (.cells cur t (0, 0))) (u : Value) : KeepE (fun e => e ≠ t) W (W.setCell ⟨g, i, none⟩ u) := by
  intro k c e f he hk
  by_cases hkg : k = g
  · subst hkg
    rw [hh] at hk
    simp at hk
    exact absurd hk.2.1.symm he
  · exact (heap_setCell_other W ⟨g, i, none⟩ k u hkg).trans hk

/-- The function's end: the mark of the loop is taken; the results are read out of their cells. -/
theorem split_leave {B0 B1 D : Nat} {WF : World} {tmps : Array Value} {R : Ending → World → Prop} {a : Option Addr} {n c : Nat} {e : Int} (t2 : tmps[2]?.getD undef = .pointer (some ⟨B0, 0, none⟩)) (t3 : tmps[3]?.getD undef = .pointer (some ⟨B1, 0, none⟩))
    (h6 : WF.heap[B0]? = some (.cells #[.slice a n c] 63 (0, 0))) (h7 : WF.heap[B1]? = some (.cells #[.int .i64 e] 25 (0, 0))) (h9 : WF.heap[D]? = some (.deferred (some []))) (hD0 : B0 ≠ D) (hD1 : B1 ≠ D)
    (hR : R (.returned (.tuple #[.slice a n c, .int .i64 e])) (WF.putObj D (.deferred none))) :
    bodyPostM Fence.wide 9 Try.prog Try.f38 R .ret { tmps := tmps, defers := [{ target := .collected D, args := #[] }] } WF := by
  have k6 := (World.putObj_heap_other (w := WF) (o := .deferred none) hD0).trans h6
  have k7 := (World.putObj_heap_other (w := WF) (o := .deferred none) hD1).trans h7
  refine ⟨by simp, .inl ⟨_, _, rfl, run_takeDeferred h9, ?_⟩⟩
  generalize WF.putObj D (.deferred none) = WG at k6 k7 hR
  have c0 : WG.cell? ⟨B0, 0, none⟩ = some (.slice a n c) := by rw [cell_of_row _ _ _ _ _ _ k6]; rfl
  have c1 : WG.cell? ⟨B1, 0, none⟩ = some (.int .i64 e) := by rw [cell_of_row _ _ _ _ _ _ k7]; rfl
  exact ⟨.tuple #[.slice a n c, .int .i64 e], by simp [results, Try.results38, go_sem, t2, t3, c0, c1], hR⟩

set_option maxRecDepth 100000 in
set_option maxHeartbeats 2000000 in
theorem Split_any (w : World) {a : Option Addr} {n cap : Nat} {xs : List Nat} (h : Rd .u8 w a n cap xs) (hn : n ≤ 1099511627776) :
    Calls Try.prog 38 #[.slice a n cap] w (RetLE w (splitX xs)) := by
  have hl := h.len
  by_cases hbig : 16384 < n
  · have e : splitX xs = ([], 4) := by unfold splitX; rw [hl, if_pos hbig]
    rw [e]
    clear e hl
    go_enter Try.func38, Try.ntmps38
    go_wp2
    refine bodyPost_ret (v := .tuple #[.slice none 0 0, .int .i64 4]) (by simp [results, Try.results38, go_sem]) rfl ?_
    exact ⟨none, 0, 0, rfl, OwL.nil _ _, ((Below.refl _ w).alloc (Nat.le_refl _) _).alloc (by simp) _⟩
  have HS : Hid (splitX xs = splitF xs (n + 1) 0 []) := Lib.hid (by unfold splitX; rw [hl, if_neg hbig])
  have HL := Lib.hid hl
  clear hl
  refine (callsIn_wide (n := 9)).1 ?_
  refine callsIn_of_wp_marks Try.func38 rfl trivial ?_ rfl
  simp only [Try.ntmps38, List.size_toArray, List.length_cons, List.length_nil, Nat.reduceAdd, Nat.reduceSub, Array.replicate_succ, Array.replicate_zero, List.push_toArray, List.append_toArray, List.nil_append, List.cons_append]
  gi_wp2_with fail
  refine ⟨trivial, (fields_in _ _ _ _ _).mono ?_⟩
  rintro e w' ⟨rfl, rfl⟩
  gi_wp2
  have hWs : (((w.alloc (.cells #[.slice none 0 0] 63)).alloc (.cells #[.int .i64 0] 25)).alloc (.cells #[.slice a n cap] 34)).heap.size = w.heap.size + 3 := by simp
  have g0 := heap_alloc_new w (.cells #[.slice none 0 0] 63)
  have g1 := heap_alloc_new (w.alloc (.cells #[.slice none 0 0] 63)) (.cells #[.int .i64 0] 25)
  have g2 := heap_alloc_new ((w.alloc (.cells #[.slice none 0 0] 63)).alloc (.cells #[.int .i64 0] 25)) (.cells #[.slice a n cap] 34)
  have b1 := (Below.refl _ (w.alloc (.cells #[.slice none 0 0] 63))).alloc (Nat.le_refl _) (.cells #[.int .i64 0] 25)
  have b2 := (Below.refl _ ((w.alloc (.cells #[.slice none 0 0] 63)).alloc (.cells #[.int .i64 0] 25))).alloc (Nat.le_refl _) (.cells #[.slice a n cap] 34)
  have g0' := heap_below (b1.trans (b2.mono b1.size)) g0
  have g1' := heap_below b2 g1
  have hb0 : Below w.heap.size w (((w.alloc (.cells #[.slice none 0 0] 63)).alloc (.cells #[.int .i64 0] 25)).alloc (.cells #[.slice a n cap] 34)) := (((Below.refl _ w).alloc (Nat.le_refl _) _).alloc (by simp) _).alloc (by simp; omega) _
  simp only [World.size_alloc] at g0' g1' g2
  generalize ((w.alloc (.cells #[.slice none 0 0] 63)).alloc (.cells #[.int .i64 0] 25)).alloc (.cells #[.slice a n cap] 34) = W0 at hWs g0' g1' g2 hb0 ⊢
  clear g0 g1 b1 b2
  have eg : ∀ args w, (callFunc 62 args).run Try.prog w = .ok (.enter 62 args) w := enters_of Try.func62 (by kernel_rfl) rfl
  refine wpIn_rangeFunc ?_
  intro fn hfn
  refine ⟨W0.heap.size + 1, [{ target := .collected W0.heap.size, args := #[] }], ?_⟩
  apply Exists.intro
  refine ⟨{ target := .fn (.func 62) #[.pointer (some ⟨w.heap.size + 1 + 1, 0, none⟩)], args := #[.func (.yield (W0.heap.size + 1)) #[] #[]] }, ?_⟩
  apply Exists.intro
  refine ⟨62, #[.func (.yield (W0.heap.size + 1)) #[] #[], .pointer (some ⟨w.heap.size + 1 + 1, 0, none⟩)], ?_⟩
  apply Exists.intro
  refine ⟨run_enterLoop_outer _ _ _ _ _, run_resolve1 _ _ _ rfl, fun _ _ => trivial, run_invoke1 eg _ _ _, fun hd => (by cases hd), ?_⟩
  generalize hrec : ({ state := .ready, pending := none, fn := fn, tmps := _, params := _, assign := _, body := _, defers := W0.heap.size } : Loop) = L0
  have hl1 : ((W0.alloc (.deferred (some []))).alloc (.loop L0)).heap[W0.heap.size + 1]? = some (.loop L0) := by
    have := World.alloc_heap_new (W0.alloc (.deferred (some []))) (.loop L0)
    rwa [World.size_alloc] at this
  have hd1 : ((W0.alloc (.deferred (some []))).alloc (.loop L0)).heap[w.heap.size + 3]? = some (.deferred (some [])) := by
    rw [← hWs]
    exact (Below.heap_alloc _ _ _ (by simp)).trans (World.alloc_heap_new W0 _)
  have hb1 : Below W0.heap.size W0 ((W0.alloc (.deferred (some []))).alloc (.loop L0)) := ((Below.refl _ _).alloc (Nat.le_refl _) _).alloc (by simp) _
  generalize (W0.alloc (.deferred (some []))).alloc (.loop L0) = W1 at hl1 hd1 hb1 ⊢
  have hJ1 : SplitJ xs w a n cap (W0.heap.size + 1) (.loop L0) 0 W1 :=
    ⟨n + 1, 0, none, 0, [], by omega, Nat.le_refl _, Nat.zero_le _, HS.out, OwL.nil _ _, heap_below hb1 g0', heap_below hb1 g1', heap_below hb1 g2, hd1, hl1, hb0.trans (hb1.mono hb0.size)⟩
  have hw0 : w.heap.size + 3 ≤ W0.heap.size := by omega
  have HW := Lib.hid hWs
  clear hWs
  refine (fields1_in w (W0.heap.size + 1) (w.heap.size + 2) 8 (w.heap.size + 3) h hn (SplitJ xs w a n cap (W0.heap.size + 1) (.loop L0)) (SplitX xs w (W0.heap.size + 1) (.loop { L0 with state := .done, pending := some .ret }))
    (fun i W W' hj hb => hj.below hb) (fun i W hj => ?_) (fun i W2 a2 m2 c2 hi hj ho => ?_) W1 hJ1).mono ?_
  · obtain ⟨f, k, a', c', out, h1, h2, h3, h4, h5, h6, h7, h8, h9, h10, h11⟩ := hj
    exact ⟨by rw [cell_of_row _ _ _ _ _ _ h8]; rfl, h11, by have := (Array.getElem?_eq_some_iff.1 h9).1; omega⟩
  · obtain ⟨f, k, a', c', out, h1, h2, h3, h4, h5, h6, h7, h8, h9, h10, h11⟩ := hj
    refine ⟨L0.fn, _, L0.assign, L0.body, run_yield h10 (by rw [← hrec]; rfl), ?_⟩
    have hfn0 : L0.state = .ready := by rw [← hrec]
    have hbr := run_beginRound (P := Try.prog) h10 hfn0
    refine roundIn_of_wpIn trivial ?_
    rw [← hrec]
    gi_wp2
    refine ⟨_, hbr, ?_⟩
    have hll : W0.heap.size + 1 < W2.heap.size := (Array.getElem?_eq_some_iff.1 h10).1
    have k6 : (W2.putObj (W0.heap.size + 1) (.loop { L0 with state := .busy })).heap[w.heap.size]? = some (.cells #[.slice a' k c'] 63 (0, 0)) := (World.putObj_heap_other (by omega)).trans h6
    have k7 : (W2.putObj (W0.heap.size + 1) (.loop { L0 with state := .busy })).heap[w.heap.size + 1]? = some (.cells #[.int .i64 0] 25 (0, 0)) := (World.putObj_heap_other (by omega)).trans h7
    have k8 : (W2.putObj (W0.heap.size + 1) (.loop { L0 with state := .busy })).heap[w.heap.size + 2]? = some (.cells #[.slice a n cap] 34 (0, 0)) := (World.putObj_heap_other (by omega)).trans h8
    have k9 : (W2.putObj (W0.heap.size + 1) (.loop { L0 with state := .busy })).heap[w.heap.size + 3]? = some (.deferred (some [])) := (World.putObj_heap_other (by omega)).trans h9
    have k10 : (W2.putObj (W0.heap.size + 1) (.loop { L0 with state := .busy })).heap[W0.heap.size + 1]? = some (.loop { L0 with state := .busy }) := World.putObj_heap_same hll
    have k11 : Below w.heap.size w (W2.putObj (W0.heap.size + 1) (.loop { L0 with state := .busy })) := h11.grown (grownBy_putObj' _ _ _) h11.size (fun q e => by cases e; omega)
    have k5 := h5.keepE (p := fun _ => True) trivial trivial (keepE_put (o' := .loop { L0 with state := .busy }) h10 rfl)
    have ko : Ow .u8 5 (w.heap.size + 3) (W2.putObj (W0.heap.size + 1) (.loop { L0 with state := .busy })) a2 m2 c2 (takeFieldX xs i).1 := ⟨ho.len, own_keepE (p := fun _ => True) trivial (keepE_put h10 rfl) ho.own, ho.bd⟩
    have ksz : W2.heap.size = (W2.putObj (W0.heap.size + 1) (.loop { L0 with state := .busy })).heap.size := by simp
    generalize W2.putObj (W0.heap.size + 1) (.loop { L0 with state := .busy }) = WB at k6 k7 k8 k9 k10 k11 k5 ko ksz ⊢
    have c0 : WB.cell? ⟨w.heap.size, 0, none⟩ = some (.slice a' k c') := by rw [cell_of_row _ _ _ _ _ _ k6]; rfl
    have f0 : WB.frozen? ⟨w.heap.size, 0, none⟩ = false := frozen_of_row _ _ _ _ _ k6
    have c1 : WB.cell? ⟨w.heap.size + 1, 0, none⟩ = some (.int .i64 0) := by rw [cell_of_row _ _ _ _ _ _ k7]; rfl
    have f1 : WB.frozen? ⟨w.heap.size + 1, 0, none⟩ = false := frozen_of_row _ _ _ _ _ k7
    obtain ⟨vs, hv, hone, hel⟩ := k5.row
    obtain ⟨f, rfl⟩ : ∃ g, f = g + 1 := ⟨f - 1, by omega⟩
    rw [splitF, if_pos (by have := HL.out; omega)] at h4
    obtain ⟨i0, hi0, hz0, hz1, hz2⟩ := etL.info
    have hrl := fun j hj => (hv.lt j hj).1
    have hrc := own_cells hv
    by_cases he : (takeFieldX xs i).2.2 = 0
    · obtain ⟨q, hq, hq1, hq2⟩ := takeFieldX_ok xs i he
      rw [if_pos he, hq, Int.toNat_natCast] at h4
      rw [he]
      have H4 := Lib.hid h4
      have HE := Lib.hid he
      have HQ := Lib.hid hq
      have HJ := Lib.hid hone
      clear h4 he hq hone
      gi_wp2_with (gi_at_builtin; refine wpListIn_append_own _ rfl _ _ 63 rfl (w.heap.size + 3) 34 i0 (.slice none 0 0) 1 24 Try.underlying63 hi0 hz0 hz1 hz2 rfl (by decide) _ _ _ rfl (hv.alloc _) ⟨WB.heap.size, 0, none⟩ 1 1 [.slice a2 m2 c2] rfl rfl (cell_one_new _ _ _) (by simp [Value.oneCell']) (by unfold maxLen; omega) (by omega) (by simp; omega) ?_; intro v' w1 hown' hgrow _; obtain ⟨g', cap', rfl⟩ := ownsRow_succ hown'; have q6 := Lib.hid (grown_heap hgrow k6 hrl (by omega)); have d0 : w1.cell? ⟨w.heap.size, 0, none⟩ = some (.slice a' k c') := (by rw [cell_of_row _ _ _ _ _ _ q6.out]; rfl); have e0 : w1.frozen? ⟨w.heap.size, 0, none⟩ = false := frozen_of_row _ _ _ _ _ q6.out)
      have hlt1 : W0.heap.size + 1 < w1.heap.size := by
        have e1 := (Array.getElem?_eq_some_iff.1 k10).1
        have e2 := hgrow.size
        simp at e2
        omega
      have r6 := heap_setCell_same w1 w.heap.size 0 _ _ (.slice (some ⟨g', 0, none⟩) (k + 1) cap') q6.out
      have r7 := (heap_setCell_other w1 ⟨w.heap.size, 0, none⟩ (w.heap.size + 1) (.slice (some ⟨g', 0, none⟩) (k + 1) cap') (by simp)).trans (grown_heap hgrow k7 hrl (by omega))
      have r8 := (heap_setCell_other w1 ⟨w.heap.size, 0, none⟩ (w.heap.size + 2) (.slice (some ⟨g', 0, none⟩) (k + 1) cap') (by simp)).trans (grown_heap hgrow k8 hrl (by omega))
      have r9 := (heap_setCell_other w1 ⟨w.heap.size, 0, none⟩ (w.heap.size + 3) (.slice (some ⟨g', 0, none⟩) (k + 1) cap') (by simp)).trans (grown_heap2 hgrow k9 (fun j hj e => by obtain ⟨c, hc⟩ := hrc j hj; rw [hc] at e; simp at e))
      have r10 := (heap_setCell_other w1 ⟨w.heap.size, 0, none⟩ (W0.heap.size + 1) (.slice (some ⟨g', 0, none⟩) (k + 1) cap') (by simp; omega)).trans (grown_heap2 hgrow k10 (fun j hj e => by obtain ⟨c, hc⟩ := hrc j hj; rw [hc] at e; simp at e))
      have r11 : Below w.heap.size w (w1.setCell ⟨w.heap.size, 0, none⟩ (.slice (some ⟨g', 0, none⟩) (k + 1) cap')) := by
        refine Below.setCell (p := ⟨w.heap.size, 0, none⟩) ?_ (Nat.le_refl _) _
        exact (k11.alloc k11.size _).grown hgrow (by have := k11.size; simp; omega) (fun j hj => by have := hrl j hj; omega)
      have r5 : OwL (w.heap.size + 3) (w1.setCell ⟨w.heap.size, 0, none⟩ (.slice (some ⟨g', 0, none⟩) (k + 1) cap')) (some ⟨g', 0, none⟩) (k + 1) cap' (out ++ [(takeFieldX xs i).1]) := by
        refine OwL.keepE (p := fun e => e ≠ 63) (by decide) (by decide) (keepE_store q6.out _) ?_
        exact OwL.snoc k5.len hown' (by have := hv.1; simpa using this) HJ.out (fun q hq => by obtain ⟨b, m, c, e1, e2⟩ := hel q hq; exact ⟨b, m, c, e1, e2.kept hv (by decide) hgrow⟩) (ko.kept hv (by decide) hgrow)
      simp only [roundPost]
      refine ⟨_, _, run_endRound none r10, rfl, ?_⟩
      have hL : ({ L0 with state := .ready, pending := none } : Loop) = L0 := by rw [← hrec]
      rw [HQ.out, Int.toNat_natCast]
      refine ⟨f, k + 1, some ⟨g', 0, none⟩, cap', out ++ [(takeFieldX xs i).1], by omega, by omega, by have := HL.out; omega, H4.out, ?_, ?_, ?_, ?_, ?_, ?_, ?_⟩
      · exact r5.keepE (p := fun _ => True) trivial trivial (keepE_put r10 rfl)
      · exact (World.putObj_heap_other (by omega)).trans r6
      · exact (World.putObj_heap_other (by omega)).trans r7
      · exact (World.putObj_heap_other (by omega)).trans r8
      · exact (World.putObj_heap_other (by omega)).trans r9
      · rw [World.putObj_heap_same (by simpa using hlt1)]
        simp only [Option.isNone_none, if_true]
        rw [hL]
      · exact r11.grown (grownBy_putObj' _ _ _) r11.size (fun j e => by cases e; omega)
    · rw [if_neg he] at h4
      have H4 := Lib.hid h4
      have HE := Lib.hid he
      have HB : ((takeFieldX xs i).2.2 != 0) = true := by simpa using he
      clear h4 he hel hrl hrc hv
      subst hrec
      gi_wp2
      have r6 : ((WB.setCell ⟨w.heap.size, 0, none⟩ (.slice none 0 0)).setCell ⟨w.heap.size + 1, 0, none⟩ (.int .i64 (takeFieldX xs i).2.2)).heap[w.heap.size]? = some (.cells #[.slice none 0 0] 63 (0, 0)) :=
        (heap_setCell_other _ ⟨w.heap.size + 1, 0, none⟩ w.heap.size _ (by simp)).trans (heap_setCell_same WB w.heap.size 0 _ _ (.slice none 0 0) k6)
      have r7 : ((WB.setCell ⟨w.heap.size, 0, none⟩ (.slice none 0 0)).setCell ⟨w.heap.size + 1, 0, none⟩ (.int .i64 (takeFieldX xs i).2.2)).heap[w.heap.size + 1]? = some (.cells #[.int .i64 (takeFieldX xs i).2.2] 25 (0, 0)) :=
        heap_setCell_same _ (w.heap.size + 1) 0 _ _ (.int .i64 (takeFieldX xs i).2.2) ((heap_setCell_other WB ⟨w.heap.size, 0, none⟩ (w.heap.size + 1) (.slice none 0 0) (by simp)).trans k7)
      have r9 : ((WB.setCell ⟨w.heap.size, 0, none⟩ (.slice none 0 0)).setCell ⟨w.heap.size + 1, 0, none⟩ (.int .i64 (takeFieldX xs i).2.2)).heap[w.heap.size + 3]? = some (.deferred (some [])) :=
        (heap_setCell_other _ ⟨w.heap.size + 1, 0, none⟩ (w.heap.size + 3) _ (by simp)).trans ((heap_setCell_other WB ⟨w.heap.size, 0, none⟩ (w.heap.size + 3) _ (by simp)).trans k9)
      have r10 := (heap_setCell_other (WB.setCell ⟨w.heap.size, 0, none⟩ (.slice none 0 0)) ⟨w.heap.size + 1, 0, none⟩ (W0.heap.size + 1) (.int .i64 (takeFieldX xs i).2.2) (by simp; omega)).trans ((heap_setCell_other WB ⟨w.heap.size, 0, none⟩ (W0.heap.size + 1) (.slice none 0 0) (by simp; omega)).trans k10)
      have r11 : Below w.heap.size w ((WB.setCell ⟨w.heap.size, 0, none⟩ (.slice none 0 0)).setCell ⟨w.heap.size + 1, 0, none⟩ (.int .i64 (takeFieldX xs i).2.2)) :=
        Below.setCell (p := ⟨w.heap.size + 1, 0, none⟩) (Below.setCell (p := ⟨w.heap.size, 0, none⟩) k11 (Nat.le_refl _) _) (by simp) _
      have hlt1 := (Array.getElem?_eq_some_iff.1 r10).1
      simp only [roundPost]
      refine ⟨_, _, run_endRound (some .ret) r10, .inr ⟨HE.out, rfl, (takeFieldX xs i).2.2, H4.out, ?_, ?_, ?_, ?_, ?_⟩⟩
      · exact (World.putObj_heap_other (by omega)).trans r6
      · exact (World.putObj_heap_other (by omega)).trans r7
      · exact (World.putObj_heap_other (by omega)).trans r9
      · rw [World.putObj_heap_same hlt1]
        rfl
      · exact r11.grown (grownBy_putObj' _ _ _) r11.size (fun j e => by cases e; omega)
  · rintro e W3 ⟨⟨v, rfl⟩, (⟨i, hi, hj⟩ | hx)⟩
    · obtain ⟨f, k, a', c', out, h1, h2, h3, h4, h5, h6, h7, h8, h9, h10, h11⟩ := hj
      obtain ⟨f, rfl⟩ : ∃ g, f = g + 1 := ⟨f - 1, by omega⟩
      rw [splitF, if_neg (by have := HL.out; omega)] at h4
      have H4 := Lib.hid h4
      clear h4
      simp only [rangePost]
      refine ⟨_, _, run_endLoop h10 (by rw [← hrec]; simp), ?_⟩
      have hp : L0.pending = none := by rw [← hrec]
      rw [hp]
      have hlt1 := (Array.getElem?_eq_some_iff.1 h10).1
      generalize (Obj.loop { L0 with state := .exhausted, pending := none }) = LX
      have k6 := (World.putObj_heap_other (w := W3) (o := LX) (show w.heap.size ≠ W0.heap.size + 1 by omega)).trans h6
      have k7 := (World.putObj_heap_other (w := W3) (o := LX) (show w.heap.size + 1 ≠ W0.heap.size + 1 by omega)).trans h7
      have k9 := (World.putObj_heap_other (w := W3) (o := LX) (show w.heap.size + 3 ≠ W0.heap.size + 1 by omega)).trans h9
      have k5 := h5.keepE (p := fun _ => True) trivial trivial (keepE_put (o' := LX) h10 rfl)
      have k11 : Below w.heap.size w (W3.putObj (W0.heap.size + 1) LX) := h11.grown (grownBy_putObj' _ _ _) h11.size (fun q e => by cases e; omega)
      generalize W3.putObj (W0.heap.size + 1) LX = WE at k6 k7 k9 k5 k11 ⊢
      clear h5 h6 h7 h8 h9 h10 h11 hrec hlt1
      have c0 : WE.cell? ⟨w.heap.size, 0, none⟩ = some (.slice a' k c') := by rw [cell_of_row _ _ _ _ _ _ k6]; rfl
      have f0 : WE.frozen? ⟨w.heap.size, 0, none⟩ = false := frozen_of_row _ _ _ _ _ k6
      have c1 : WE.cell? ⟨w.heap.size + 1, 0, none⟩ = some (.int .i64 0) := by rw [cell_of_row _ _ _ _ _ _ k7]; rfl
      have f1 : WE.frozen? ⟨w.heap.size + 1, 0, none⟩ = false := frozen_of_row _ _ _ _ _ k7
      gi_wp2
      have r6 := (heap_setCell_other _ ⟨w.heap.size + 1, 0, none⟩ w.heap.size (.int .i64 0) (by simp)).trans (heap_setCell_same WE w.heap.size 0 _ _ (.slice a' k c') k6)
      have r7' := (heap_setCell_other WE ⟨w.heap.size, 0, none⟩ (w.heap.size + 1) (.slice a' k c') (by simp)).trans k7
      have r7 := heap_setCell_same (WE.setCell ⟨w.heap.size, 0, none⟩ (.slice a' k c')) (w.heap.size + 1) 0 _ _ (.int .i64 0) r7'
      have r9 := (heap_setCell_other (WE.setCell ⟨w.heap.size, 0, none⟩ (.slice a' k c')) ⟨w.heap.size + 1, 0, none⟩ (w.heap.size + 3) (.int .i64 0) (by simp)).trans ((heap_setCell_other WE ⟨w.heap.size, 0, none⟩ (w.heap.size + 3) (.slice a' k c') (by simp)).trans k9)
      have r5 := OwL.keepE (p := fun e => e ≠ 25) (by decide) (by decide) (keepE_store (i := 0) r7' (.int .i64 0)) (OwL.keepE (p := fun e => e ≠ 63) (by decide) (by decide) (keepE_store (i := 0) k6 (.slice a' k c')) k5)
      have r11 : Below w.heap.size w ((WE.setCell ⟨w.heap.size, 0, none⟩ (.slice a' k c')).setCell ⟨w.heap.size + 1, 0, none⟩ (.int .i64 0)) :=
        Below.setCell (p := ⟨w.heap.size + 1, 0, none⟩) (Below.setCell (p := ⟨w.heap.size, 0, none⟩) k11 (Nat.le_refl _) _) (by simp) _
      have r9' := r9
      rw [← HW.out] at r9'
      refine split_leave (B0 := w.heap.size) (B1 := w.heap.size + 1) (a := a') (n := k) (c := c') (e := 0) rfl rfl r6 r7 r9' (by have := HW.out; omega) (by have := HW.out; omega) ?_
      rw [H4.out]
      exact ⟨a', k, c', rfl, OwL.base_le (OwL.keepE (p := fun _ => True) trivial trivial (keepE_put r9' rfl) r5) (by omega), r11.grown (grownBy_putObj' _ _ _) r11.size (fun q e => by cases e; have := HW.out; omega)⟩
    · obtain ⟨e, h4, h6, h7, h9, h10, h11⟩ := hx
      simp only [rangePost]
      refine ⟨_, _, run_endLoop h10 (by simp), ?_⟩
      generalize (Obj.loop _) = LX
      have hl := (Array.getElem?_eq_some_iff.1 h10).1
      have k6 := (World.putObj_heap_other (w := W3) (o := LX) (show w.heap.size ≠ W0.heap.size + 1 by omega)).trans h6
      have k7 := (World.putObj_heap_other (w := W3) (o := LX) (show w.heap.size + 1 ≠ W0.heap.size + 1 by omega)).trans h7
      have k9 := (World.putObj_heap_other (w := W3) (o := LX) (show w.heap.size + 3 ≠ W0.heap.size + 1 by omega)).trans h9
      have k11 : Below w.heap.size w (W3.putObj (W0.heap.size + 1) LX) := h11.grown (grownBy_putObj' _ _ _) h11.size (fun q e => by cases e; omega)
      generalize W3.putObj (W0.heap.size + 1) LX = WE at k6 k7 k9 k11 ⊢
      clear h6 h7 h9 h10 h11 hrec hl
      gi_wp2
      have k9' := k9
      rw [← HW.out] at k9'
      refine split_leave (B0 := w.heap.size) (B1 := w.heap.size + 1) (a := none) (n := 0) (c := 0) (e := e) rfl rfl k6 k7 k9' (by have := HW.out; omega) (by have := HW.out; omega) ?_
      exact ⟨none, 0, 0, rfl, OwL.nil _ _, k11.grown (grownBy_putObj' _ _ _) k11.size (fun q e => by cases e; have := HW.out; omega)⟩

end Go.Proofs.Ytnjkfjecnicccaa
