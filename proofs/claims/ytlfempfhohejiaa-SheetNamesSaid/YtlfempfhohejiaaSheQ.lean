/- The reader's ranks. Conditions: the sizes of sheets. Printed by gen_sheq.py. -/
import Derived.Test.YtlfempfhohejiaaSheP
import Derived.WalkMore
namespace Go.Proofs.Ytlfempfhohejiaa
open Go.RowKit Go.Suf
set_option linter.unusedVariables false
set_option linter.unusedSimpArgs false
attribute [local go_sem] Oper.semAt_some

/-- The marks that ranges over functions have left among the deferred calls. -/
def dmk (Ds : List Nat) : List Deferred := Ds.map fun D => { target := .collected D, args := #[] }
/-- They stand in blocks of their own, from B on. -/
def DsW (B : Nat) (Ds : List Nat) (W : World) : Prop := Ds.Nodup ∧ ∀ D ∈ Ds, B ≤ D ∧ W.heap[D]? = some (.deferred (some []))
theorem DsW.keep {B : Nat} {Ds : List Nat} {W W' : World} (h : DsW B Ds W) (hk : ∀ (k : Nat), W.heap[k]? = some (Obj.deferred (some [])) → W'.heap[k]? = some (Obj.deferred (some []))) : DsW B Ds W' := ⟨h.1, fun D hD => ⟨(h.2 D hD).1, hk D (h.2 D hD).2⟩⟩
theorem DsW.cons {B D : Nat} {Ds : List Nat} {W W' : World} (h : DsW B Ds W) (hb : Below W.heap.size W W') (hD : W.heap.size ≤ D) (hB : B ≤ W.heap.size) (hd : W'.heap[D]? = some (.deferred (some []))) : DsW B (D :: Ds) W' := by
  refine ⟨List.nodup_cons.2 ⟨fun hm => ?_, h.1⟩, fun k hk => ?_⟩
  · have := (Array.getElem?_eq_some_iff.1 (h.2 D hm).2).1
    omega
  · rcases List.mem_cons.1 hk with rfl | hk
    · exact ⟨by omega, hd⟩
    · have h1 := h.2 k hk
      exact ⟨h1.1, (hb.block k (Array.getElem?_eq_some_iff.1 h1.2).1).trans h1.2⟩
theorem DsW.below {B : Nat} {Ds : List Nat} {W W' : World} (h : DsW B Ds W) (hb : Below W.heap.size W W') : DsW B Ds W' := DsW.keep h fun k hk => (hb.block k (Array.getElem?_eq_some_iff.1 hk).1).trans hk
theorem DsW.set {B : Nat} {Ds : List Nat} {W : World} (h : DsW B Ds W) {g i : Nat} {cs : Array Value} {t : TypeId} (hg : W.heap[g]? = some (.cells cs t (0, 0))) (v : Value) : DsW B Ds (W.setCell ⟨g, i, none⟩ v) := DsW.keep h fun k hk => by
  refine (heap_setCell_other W ⟨g, i, none⟩ k v (fun e => ?_)).trans hk
  have e2 : k = g := e
  subst e2
  rw [hg] at hk
  simp at hk

theorem leave_dmk {fn : Func} {tmps : Array Value} {R : Ending → World → Prop} (B : Nat) (RW : World → Prop) (hst : ∀ (W : World) (D : Nat), B ≤ D → W.heap[D]? = some (.deferred (some [])) → RW W → RW (W.putObj D (.deferred none)))
    (hr : fn.results = #[]) (hR : ∀ W, RW W → R (.returned (.tuple #[])) W) : ∀ (Ds : List Nat) (W : World), DsW B Ds W → RW W → LeavesInM Fence.wide 9 Try.prog fn tmps R (dmk Ds) .returning W := by
  intro Ds
  induction Ds with
  | nil => exact fun W _ hW => ⟨_, results_none hr _ _ _, hR W hW⟩
  | cons D Ds ih =>
    intro W hD hW
    have h1 := hD.2 D (List.mem_cons_self ..)
    refine ⟨by simp, .inl ⟨D, _, rfl, run_takeDeferred h1.2, ih _ ⟨(List.nodup_cons.1 hD.1).2, fun k hk => ?_⟩ (hst W D h1.1 h1.2 hW)⟩⟩
    have h2 := hD.2 k (List.mem_cons_of_mem _ hk)
    refine ⟨h2.1, (World.putObj_heap_other (fun e => ?_)).trans h2.2⟩
    subst e
    exact (List.nodup_cons.1 hD.1).1 hk

theorem own_low {w : World} {base base' : Nat} {e : TypeId} {v : Value} {n : Nat} {xs : List Value} (h : w.ownsRow base e 1 v n xs) (hb : base' ≤ base) : w.ownsRow base' e 1 v n xs := by
  refine ⟨h.1, ?_⟩
  rcases h.2 with h2 | ⟨g, c, cur, hv, hg, r⟩
  · exact .inl h2
  · exact .inr ⟨g, c, cur, hv, by omega, r⟩

theorem fst_inI (xs : List Int) (n : Nat) (v : Int) : decide (0 ≤ fstI (fun i => decide (ith xs i = v)) n) = inI xs n v := by
  rw [fstI_ge, Bool.eq_iff_iff, List.any_eq_true]
  unfold inI
  rw [decide_eq_true_eq]
  constructor
  · rintro ⟨k, hk, h⟩
    exact ⟨k, List.mem_range.1 hk, of_decide_eq_true h⟩
  · rintro ⟨k, hk, h⟩
    exact ⟨k, List.mem_range.2 hk, decide_eq_true h⟩

theorem own_not_def {W : World} {base : Nat} {e : TypeId} {v : Value} {n : Nat} {xs : List Value} {k : Nat} (h : W.ownsRow base e 1 v n xs) (hk : W.heap[k]? = some (Obj.deferred (some []))) : some k ≠ v.ownBlock := by
  intro e2
  rcases h.2 with ⟨rfl, _⟩ | ⟨g, c, cur, rfl, _, hh, _⟩
  · simp [Value.ownBlock] at e2
  · simp [Value.ownBlock] at e2
    subst e2
    rw [hk] at hh
    simp at hh

def noPanic (Q : Exit → Act → World → Prop) : Exit → Act → World → Prop
  | .panic _, _, _ => False
  | e, a, w => Q e a w
theorem wp_noPanic {P : Program} {c : Code} {Q : Exit → Act → World → Prop} {a : Act} {w : World} (h : c.wp P (noPanic Q) a w) : c.wp P Q a w :=
  wp_mono h fun e a w hh => by cases e <;> first | exact hh | exact hh.elim

/-- What the reader's functions leave, block for block. -/
def RetBW (w0 w : World) (rp kd : Nat) (db : Value) (g N mc n wd : Nat) (mo sk : Int) (r : List Int × Int) (w' : World) : Prop :=
  ∃ a m c, PRow 80 w0 w' rp (rdc kd (.slice a m c) r.2 db g N mc n wd mo sk) ∧ OwI w.heap.size w' a m c r.1 ∧ KeepX rp w w'
end Go.Proofs.Ytlfempfhohejiaa
namespace Go.Suf
open Go.RowKit Go.Suf
open Go.Proofs.Ytlfempfhohejiaa
set_option linter.unusedVariables false
set_option linter.unusedSimpArgs false
attribute [local go_sem] Oper.semAt_some
theorem OwG.putD {α : Type} {enc : α → Value} {ok : α → Prop} {e : TypeId} {base D : Nat} {w : World} {a : Option Addr} {n cap : Nat} {xs : List α} (h : OwG enc ok e base w a n cap xs) (hd : w.heap[D]? = some (.deferred (some []))) (o : Obj) : OwG enc ok e base (w.putObj D o) a n cap xs := ⟨h.len, ownsRow_putObj h.own o hd rfl, h.bd⟩
end Go.Suf
namespace Go.Proofs.Ytlfempfhohejiaa
open Go.RowKit Go.Suf
set_option linter.unusedVariables false
set_option linter.unusedSimpArgs false
attribute [local go_sem] Oper.semAt_some
theorem PRow.putD {t : TypeId} {w w1 : World} {k D : Nat} {cs : Array Value} (h : PRow t w w1 k cs) (hd : w1.heap[D]? = some (.deferred (some []))) (hD : w.heap.size ≤ D) (o : Obj) : PRow t w (w1.putObj D o) k cs := by
  have hne : k ≠ D := by
    rintro rfl
    have := h.row
    rw [hd] at this
    simp at this
  exact ⟨h.below.grown (grownBy_putObj' _ _ _) h.below.size (fun q e => by cases e; omega), (World.putObj_heap_other hne).trans h.row, h.lo, by have := h.lt; simpa using this⟩
theorem retBW_put {w0 w : World} {rp kd : Nat} {db : Value} {g N mc n wd : Nat} {mo sk : Int} {r : List Int × Int} (hw0 : w0.heap.size ≤ w.heap.size) (W : World) (D : Nat) (hD : w.heap.size ≤ D) (hd : W.heap[D]? = some (.deferred (some []))) (h : RetBW w0 w rp kd db g N mc n wd mo sk r W) : RetBW w0 w rp kd db g N mc n wd mo sk r (W.putObj D (.deferred none)) := by
  obtain ⟨a, m, c, P, ho, hk⟩ := h
  refine ⟨a, m, c, P.putD hd (by omega) _, ho.putD hd _, ⟨by have := hk.1; simpa using this, fun k h1 h2 => ?_⟩⟩
  exact (World.putObj_heap_other (by omega)).trans (hk.2 k h1 h2)

set_option maxRecDepth 100000 in
set_option maxHeartbeats 4000000 in
theorem ranks_any (w0 w : World) (rp kd g mc n : Nat) (db : Value) (mo sk : Int) (hs1 : 0 ≤ sk) (hs2 : sk ≤ 10) (gc : Array Value) (mk : List Bool) (hn : n ≤ 10) (hN : mk.length = n * n) (hw0 : w0.heap.size ≤ w.heap.size)
    (P : PRow 80 w0 w rp (rdc kd (.slice none 0 0) 0 db g mk.length mc n n mo sk)) (M : MkW w g gc mk) :
    Calls Try.prog 55 #[.pointer (some ⟨rp, 0, none⟩)] w (RetB w0 w rp kd db g mk.length mc n n mo sk (ranksR mk n sk)) := by
  obtain ⟨r, hr⟩ : ∃ r, ranksR mk n sk = r := ⟨_, rfl⟩
  rw [hr]
  have HR := Lib.hid hr
  have HIDX := Lib.hid (fun (j : Nat) (hj : j < n) (i : Nat) (hi : i < n) => (show i * n + j < mk.length by
    have e : (i + 1) * n ≤ n * n := Nat.mul_le_mul_right _ (by omega)
    rw [Nat.succ_mul] at e
    omega))
  have hlen : mk.length ≤ 1000000 := by rw [hN]; exact Nat.le_trans (Nat.mul_le_mul hn hn) (by decide)
  have HLEN := Lib.hid hlen
  clear hr hN hlen
  have hne := M.ne P
  have HNE := Lib.hid hne
  have HM := Lib.hid M
  obtain ⟨i0, hi, hz0, hz1, hz2⟩ := etI.info
  obtain ⟨N, hNN⟩ : ∃ N, mk.length = N := ⟨_, rfl⟩
  refine (callsIn_wide (n := 9)).1 ?_
  refine callsIn_of_wp_marks Try.func55 rfl trivial ?_ rfl
  simp only [Try.ntmps55, List.size_toArray, List.length_cons, List.length_nil, Nat.reduceAdd, Nat.reduceSub, Array.replicate_succ, Array.replicate_zero, List.push_toArray, List.append_toArray, List.nil_append, List.cons_append]
  refine wpIn_wide.2 (wp_noPanic ?_)
  have k3 := P.cell 6 (.int .i64 ((n : Nat) : Int)) rfl
  have k5 := P.cell 5 (.int .i64 ((n : Nat) : Int)) rfl
  go_step3
  go_wp2
  go_step3
  go_wp2_with fail
  refine wp_loop (fun a W => ∃ (j : Nat) (jz : Int) (am : Option Addr) (m c : Nat) (out : List Int) (s : Int) (Ds : List Nat) (u3 u4 u5 u11 u12 u13 u14 u15 u16 u17 u18 u19 u20 u21 u22 u23 u24 u25 u26 u27 u28 u29 u30 u31 u32 u33 u34 u35 u36 u37 u38 u39 u40 u41 u42 u43 u44 u45 u46 u47 u48 u49 u50 u51 u52 u53 u54 u55 u56 u57 u58 u59 u60 u61 u62 u63 u64 u65 u66 u67 u68 : Value), (jz = ((j : Nat) : Int) ∧ j ≤ n ∧ 0 ≤ s ∧ s ≤ j ∧ (sk = 0 ∨ s < sk) ∧ m ≤ j ∧ PRow 80 w0 W rp (rdc kd (.slice am m c) 0 db g mk.length mc n n mo sk) ∧ OwI w.heap.size W am m c out ∧ KeepX rp w W ∧ Hid (DsW w.heap.size Ds W) ∧ Hid (r = rankS mk n sk (n - j) j out s)) ∧ a = { tmps := #[.pointer (some ⟨rp, 0, none⟩), undef, .int .i64 s, u3, u4, u5, .pointer (some ⟨rp, 0, none⟩), .pointer (some ⟨rp, 0, none⟩), .pointer (some ⟨rp, 6, none⟩), .int .i64 ((n : Nat) : Int), .int .i64 jz, u11, u12, u13, u14, u15, u16, u17, u18, u19, u20, u21, u22, u23, u24, u25, u26, u27, u28, u29, u30, u31, u32, u33, u34, u35, u36, u37, u38, u39, u40, u41, u42, u43, u44, u45, u46, u47, u48, u49, u50, u51, u52, u53, u54, u55, u56, u57, u58, u59, u60, u61, u62, u63, u64, u65, u66, u67, u68], defers := dmk Ds }) (fun a _ => n - (intOf (a.tmps.getD 10 undef)).toNat) ?start ?round
  case start => exact ⟨0, 0, none, 0, 0, [], 0, [], undef, undef, undef, undef, undef, undef, undef, undef, undef, undef, undef, undef, undef, undef, undef, undef, undef, undef, undef, undef, undef, undef, undef, undef, undef, undef, undef, undef, undef, undef, undef, undef, undef, undef, undef, undef, undef, undef, undef, undef, undef, undef, undef, undef, undef, undef, undef, undef, undef, undef, undef, undef, undef, undef, undef, undef, undef, undef, undef, undef, undef, ⟨rfl, Nat.zero_le _, by decide, by decide, by omega, Nat.zero_le _, P, OwG.nil _ _ _ _ _, KeepX.refl _ _, Lib.hid ⟨List.nodup_nil, fun D hD => by cases hD⟩, Lib.hid HR.out.symm⟩, rfl⟩
  case round =>
    clear P M k3 k5
    rintro a W ⟨j, jz, am, m, c, out, s, Ds, u3, u4, u5, u11, u12, u13, u14, u15, u16, u17, u18, u19, u20, u21, u22, u23, u24, u25, u26, u27, u28, u29, u30, u31, u32, u33, u34, u35, u36, u37, u38, u39, u40, u41, u42, u43, u44, u45, u46, u47, u48, u49, u50, u51, u52, u53, u54, u55, u56, u57, u58, u59, u60, u61, u62, u63, u64, u65, u66, u67, u68, ⟨rfl, hj, hs0, hsj, hsk, hmj, P, ho, KX, HDS, hR⟩, rfl⟩
    by_cases hlt : j < n
    case neg =>
      obtain rfl : n = j := by omega
      have HF := Lib.hid (show r = (out, 0) by rw [hR.out, Nat.sub_self]; rfl)
      go_wp2_with fail
      refine leave_dmk w.heap.size (RetBW w0 w rp kd db g mk.length mc n n mo sk r) (fun W D h1 h2 h3 => retBW_put hw0 W D h1 h2 h3) rfl (fun W h => ⟨rfl, h⟩) _ _ HDS.out ?_
      rw [HF.out]
      exact ⟨_, _, _, P, ho, KX⟩
    case pos =>
      obtain ⟨f, hf⟩ : ∃ f, n - j = f + 1 := ⟨n - j - 1, by omega⟩
      have hfe : n - (j + 1) = f := by omega
      have HFE := Lib.hid hfe
      obtain ⟨l, hl⟩ : ∃ l, colL mk n j n = l := ⟨_, rfl⟩
      have hll : l.length ≤ 10 := by rw [← hl]; exact Nat.le_trans (colL_le _ _ _ _) hn
      have HLI := Lib.hid (show ∀ x ∈ l, ∃ i : Nat, x = (i : Int) ∧ i < n by rw [← hl]; exact colL_in _ _ _ _)
      have HU := Lib.hid (show r = if 1 < l.length then (out, 1) else if l.length = 0 then (if 0 < sk ∧ sk ≤ s + 1 then (out, 0) else rankS mk n sk f (j + 1) out (s + 1)) else rankS mk n sk f (j + 1) (if inI out out.length (ith l 0) = true then out else out ++ [ith l 0]) 0 by rw [hR.out, hf, rankS, hl])
      have HL := Lib.hid hl
      have M := Hid.out HM
      have MW := M.keep KX HNE.out
      clear hl hf hfe hR M
      go_wp2_with fail
      refine (row_any _ rp ((j : Nat) : Int)).mono ?_
      rintro e w1 ⟨rfl, hw1⟩
      have hb0 : Below W.heap.size W (W.alloc (.cells #[.slice none 0 0] 37)) := (Below.refl _ W).alloc (Nat.le_refl _) _
      have bL0 := Boxed.new W 37 (.slice none 0 0)
      have hR1 := ((P.later hb0).rdrW (MW.keep (KeepX.of hb0) HNE.out)).rowW j
      have hb1 : Below (W.heap.size + 1) (W.alloc (.cells #[.slice none 0 0] 37)) w1 := by rw [hw1]; exact ((Below.refl _ _).alloc (by simp) _).alloc (by simp) _
      have hsz1 : w1.heap.size = W.heap.size + 3 := by rw [hw1]; simp
      rw [← hw1] at hR1
      rw [World.size_alloc] at hR1 ⊢
      have bL1 : Boxed w1 W.heap.size 37 (.slice none 0 0) := (hb1.block _ (by omega)).trans bL0
      have hB1 : Below W.heap.size W w1 := hb0.trans (hb1.mono (by omega))
      clear hw1 hb0 bL0 hb1
      have lrp : rp < W.heap.size := P.lt
      have lg : g < W.heap.size := (Array.getElem?_eq_some_iff.1 MW.blk).1
      go_wp2_with fail
      refine (wpIn_wide (n := 9)).1 ?_
      refine wpIn_rangeFunc_ownG rfl (by omega) (gf := 80) (lb := #[.pointer (some ⟨W.heap.size + 1, 0, none⟩), .pointer (some ⟨W.heap.size + 1 + 1, 0, none⟩)]) rfl trivial (enters_of Try.func80 (by kernel_rfl) rfl)
        (row_stops _ W.heap.size (W.heap.size + 3) (W.heap.size + 1) (W.heap.size + 1 + 1) rp g 0 j mc _ _ _ _ _ gc mk n n (by omega) (by omega) (by omega) (HIDX.out j hlt) HLEN.out ⟨by omega, by omega⟩ ⟨by omega, by omega⟩ ⟨by omega, by omega⟩ ⟨by omega, by omega⟩ w1 (by omega) hR1) (fun h k => KpB.trans h k) (fun W l o o' _ h hc _ => KpB.put W l o o' h hc) (Below.refl _ _) (fun _ => rfl)
        (fun pre W' => (∃ v, Boxed W' W.heap.size 37 v ∧ W'.ownsRow (W.heap.size + 3) 3 1 v pre.length (pre.map (fun x => Value.int .i64 ((x : Nat) : Int))) ∧ True) ∧ Below W.heap.size W W' ∧ W.heap.size + 3 ≤ W'.heap.size)
        (fun _ _ _ => False)
        (OwnFrom.and (Own.from (holdsRow_own (W.heap.size + 3) W.heap.size 37 3 1 (fun pre : List Nat => pre.length) (fun pre => pre.map (fun x => Value.int .i64 ((x : Nat) : Int))) (fun _ _ => True)) _) (OwnFrom.and (ownFrom_below (Nat.le_refl _) (by omega)) (fun _ A B row hs hg hr => Nat.le_trans hs hg.size)))
        (fun _ _ _ _ _ hs _ _ => hs)
        ⟨⟨_, bL1, World.ownsRow_nil _ _ _ _, trivial⟩, hB1, by omega⟩
        (fun x => { tmps := #[.pointer (some ⟨rp, 0, none⟩), undef, .int .i64 s, .int .i64 ((j : Nat) : Int), .pointer (some ⟨W.heap.size, 0, none⟩), .int .i64 ((x : Nat) : Int), .pointer (some ⟨rp, 0, none⟩), .pointer (some ⟨rp, 0, none⟩), .pointer (some ⟨rp, 6, none⟩), .int .i64 ((n : Nat) : Int), .int .i64 ((j : Nat) : Int), .bool true, .int .i64 ((j : Nat) : Int), .pointer (some ⟨rp, 0, none⟩), .int .i64 ((j : Nat) : Int), .func (.func 80) #[] #[.pointer (some ⟨W.heap.size + 1, 0, none⟩), .pointer (some ⟨W.heap.size + 1 + 1, 0, none⟩)], .int .i64 ((x : Nat) : Int), u17, u18, u19, u20, u21, u22, u23, u24, u25, u26, u27, u28, u29, u30, u31, u32, u33, u34, u35, u36, u37, u38, u39, u40, u41, u42, u43, u44, u45, u46, u47, u48, u49, u50, u51, u52, u53, u54, u55, u56, u57, u58, u59, u60, u61, u62, u63, u64, u65, u66, u67, u68], defers := [] }) ?assign ?body ?done ?stop
      case assign =>
        intro l x W K hK
        gi_wp2
        exact hK
      case body =>
        rintro l pre x W1 ⟨⟨v, hv, hrow, -⟩, hB, hsz⟩ hlt
        have hc := hv.cell
        gi_wp2_with (gi_at_builtin; refine wpListIn_append_own _ rfl _ _ 37 rfl (W.heap.size + 3) 3 i0 (.int .i64 0) 1 8 Try.underlying37 hi hz0 hz1 hz2 rfl (by decide) _ _ _ rfl (hrow.alloc _) ⟨W1.heap.size, 0, none⟩ 1 1 [.int .i64 ((x : Nat) : Int)] rfl rfl (cell_one_new _ _ _) (by simp [Value.oneCell']) (by unfold maxLen; omega) (by omega) (by simp; omega) ?_; intro v' w1 hown' hgrow _; obtain ⟨g', cap', rfl⟩ := ownsRow_succ hown'; obtain ⟨hv1, hv2, hr2, hk2, hb2⟩ := hv.appended (by decide) (own_low hrow (Nat.le_add_right _ 3)) (by omega) (Nat.le_refl _) (own_low hown' (Nat.le_add_right _ 3)) hgrow; have hc1 := hv1.cell; have hf1 := hv1.frozen)
        have hr3 := hown'.kept (grownBy_setCell' _ W.heap.size (.slice (some ⟨g', 0, none⟩) (pre.length + 1) cap')) (.inr (hv1.not_row (by decide) hown').symm)
        refine ⟨hk2.from _, fun k cc tt hk1 hk3 hk4 => ?_, ⟨_, hv2, by simpa using hr3, trivial⟩, hB.trans hb2, Nat.le_trans hsz hb2.size⟩
        refine (heap_setCell_other _ ⟨W.heap.size, 0, none⟩ k _ hk3).trans ?_
        have hkl := (Array.getElem?_eq_some_iff.1 hk4).1
        refine (hgrow.block k (by simp; omega) (fun e => ?_)).trans ((Below.heap_alloc _ _ _ hkl).trans hk4)
        have := (hrow.lt k e.symm).1
        omega
      case stop =>
        rintro D c pre W _ _ h _
        exact h.elim
      case done =>
        rintro D ys W2 hD rfl ⟨⟨v, hv, hrow, -⟩, hB, hsz⟩ hK
        have hl' : (colN mk n j n).length = l.length := by rw [← HL.out, ← colN_colL, List.length_map]
        have hm' : (colN mk n j n).map (fun x => Value.int .i64 ((x : Nat) : Int)) = l.map encI := by rw [← HL.out, ← colN_colL, List.map_map]; rfl
        rw [hl', hm'] at hrow
        have okl : ∀ x ∈ l, okI x := fun x hx => by obtain ⟨i, rfl, hi⟩ := HLI.out x hx; exact ⟨by omega, by omega⟩
        obtain ⟨al, cl, rfl, hol⟩ : ∃ al cl, v = .slice al l.length cl ∧ OwI (W.heap.size + 3) W2 al l.length cl l := by
          rcases hrow.2 with ⟨e, h0⟩ | ⟨g1, cap1, _, e, _⟩
          · subst e
            have h00 : l.length = 0 := h0
            exact ⟨none, 0, by rw [h00], ⟨rfl, by have := hrow; rw [h00] at this ⊢; exact this, okl⟩⟩
          · subst e
            exact ⟨_, _, rfl, ⟨rfl, hrow, okl⟩⟩
        clear hl' hm' hrow
        have kL := hv.cell
        have P2 := P.later hB
        have ho2 := ho.below hB
        have KX2 := KX.trans (KeepX.of hB)
        have HDS2 := Lib.hid (HDS.out.cons hB (by omega) KX.1 hK)
        have lD : W.heap.size ≤ D := by omega
        clear P ho KX HDS hD hK hR1 bL1 hB1 MW
        have k1 := P2.cell 1 (.slice am m c) rfl
        have k2 := P2.cell 2 (.int .i64 0) rfl
        have k8 := P2.cell 8 (.int .i64 sk) rfl
        have f1 := P2.free 1
        have f2 := P2.free 2
        by_cases h1 : 1 < l.length
        case pos =>
          have hd : decide (((l.length : Nat) : Int) > 1) = true := decide_eq_true (by omega)
          have HF := Lib.hid (show r = (out, 1) by rw [HU.out, if_pos h1])
          go_wp2_with fail
          refine leave_dmk w.heap.size (RetBW w0 w rp kd db g mk.length mc n n mo sk r) (fun W D h1 h2 h3 => retBW_put hw0 W D h1 h2 h3) rfl (fun W h => ⟨rfl, h⟩) (D :: Ds) _ (HDS2.out.set P2.row _) ?_
          rw [HF.out]
          exact ⟨am, m, c, P2.set 2 (.int .i64 1), ho2.setHi P2.row (by decide) _, KX2.set 2 _⟩
        have hd : decide (((l.length : Nat) : Int) > 1) = false := decide_eq_false (by omega)
        by_cases h0 : l.length = 0
        case pos =>
          have hz : (((l.length : Nat) : Int) == 0) = true := beqz h0
          have HU2 := Lib.hid (show r = if 0 < sk ∧ sk ≤ s + 1 then (out, 0) else rankS mk n sk f (j + 1) out (s + 1) by rw [HU.out, if_neg h1, if_pos h0])
          have HZ0 := Lib.hid h0
          clear h0 h1
          have hws : IntKind.i64.wrap (s + 1) = s + 1 := wrap_in (by omega) (by omega)
          by_cases hq : s + 1 = sk
          case pos =>
            have hqd : (s + 1 == sk) = true := by simpa using hq
            have HF := Lib.hid (show r = (out, 0) by rw [HU2.out, if_pos ⟨by omega, by omega⟩])
            have HQ := Lib.hid hq
            clear hq
            go_wp2_with fail
            refine leave_dmk w.heap.size (RetBW w0 w rp kd db g mk.length mc n n mo sk r) (fun W D h1 h2 h3 => retBW_put hw0 W D h1 h2 h3) rfl (fun W h => ⟨rfl, h⟩) (D :: Ds) _ (HDS2.out) ?_
            rw [HF.out]
            exact ⟨am, m, c, P2, ho2, KX2⟩
          have hqd : (s + 1 == sk) = false := by simpa using hq
          have HS := Lib.hid (show r = rankS mk n sk (n - (j + 1)) (j + 1) out (s + 1) by rw [HU2.out, if_neg (by omega), HFE.out])
          have HQ := Lib.hid hq
          have HSK := Lib.hid (show sk = 0 ∨ s + 1 < sk by omega)
          clear hq
          go_wp2_with fail
          refine ⟨⟨j + 1, _, _, _, _, out, s + 1, D :: Ds, _, _, _, _, _, _, _, _, _, _, _, _, _, _, _, _, _, _, _, _, _, _, _, _, _, _, _, _, _, _, _, _, _, _, _, _, _, _, _, _, _, _, _, _, _, _, _, _, _, _, _, _, _, _, _, _, _, _, _, _, _, ⟨by go_num, by omega, by omega, by omega, HSK.out, by omega, P2, ho2, KX2, Lib.hid (HDS2.out), HS⟩, rfl⟩, ?_⟩
          simp [intOf]
          omega
        have hz : (((l.length : Nat) : Int) == 0) = false := beqn h0
        obtain ⟨v, hv0⟩ : ∃ v, ith l 0 = v := ⟨_, rfl⟩
        have HV := Lib.hid hv0
        have hvv : ∃ i : Nat, v = (i : Int) ∧ i < n := by rw [← hv0]; exact HLI.out _ (gth_mem 0 (by omega))
        obtain ⟨vi, hv1, hv2⟩ := hvv
        have hvo : okI v := ⟨by omega, by omega⟩
        clear hv1 hv2
        obtain ⟨gl, rfl, hgl, -⟩ := hol.where (by omega)
        have kx : World.cell? W2 ⟨gl, 0, none⟩ = some (.int .i64 (ith l 0)) := hol.at 0 0 (by omega)
        rw [hv0] at kx
        clear hv0
        have hl0 : (0 : Int) < ((l.length : Nat) : Int) := by omega
        have HU3 := Lib.hid (show r = rankS mk n sk f (j + 1) (if inI out out.length v = true then out else out ++ [v]) 0 by rw [HU.out, if_neg h1, if_neg h0, HV.out])
        have h0l : 0 < l.length := by omega
        have HSK0 := Lib.hid (show sk = 0 ∨ 0 < sk by omega)
        clear h0 h1
        have lgl : gl < W2.heap.size := by
          have := hol.where h0l
          obtain ⟨_, e, _, h⟩ := this
          simp at e
          omega
        have hb := (Below.refl W2.heap.size W2).drew
        go_wp2_with fail
        have P3 := P2.later hb
        have ho3 := ho2.below hb
        have KX3 := KX2.trans (KeepX.of hb)
        have HDS3 := Lib.hid (HDS2.out.below hb)
        have kL3 : W2.drew.cell? ⟨W.heap.size, 0, none⟩ = some (.slice (some ⟨gl, 0, none⟩) l.length cl) := kL
        have kx3 : W2.drew.cell? ⟨gl, 0, none⟩ = some (.int .i64 v) := kx
        have lL3 : W.heap.size < W2.drew.heap.size := hv.lt
        have lgl3 : gl < W2.drew.heap.size := lgl
        clear P2 ho2 KX2 HDS2 kL kx k1 k2 k8 f1 f2 hb lgl hv hol hB hsz
        have k13 := P3.cell 1 (.slice am m c) rfl
        refine wp_region_held_drew (S := (fun v' => v'.cell? ⟨rp, 1, none⟩ = some (.slice am m c) ∧ v'.cell? ⟨W.heap.size, 0, none⟩ = some (.slice (some ⟨gl, 0, none⟩) l.length cl) ∧ v'.cell? ⟨gl, 0, none⟩ = some (.int .i64 v))) (by kernel_rfl) ?_ (fun hHeld => ?_)
        · exact ⟨k13, kL3, kx3⟩
        generalize W2.drew = W3 at *
        refine wpAnyH_take (i := 0) (oi := ?oir1_0) (v := ?vr1_0) ?hir1_0 (by kernel_rfl) (by kernel_rfl) (by kernel_rfl) ?hqr1_0 ?hyr1_0 (by assumption) ?restr1_0
        case hir1_0 => simp only [List.getElem?_toArray, List.getElem?_cons_succ, List.getElem?_cons_zero]; rfl
        case hqr1_0 => exact fun _ _ _ h => h
        case hyr1_0 => (refine Or.inl ⟨by rfl, ?_⟩; intro w hSw; (try dsimp only at hSw); go_simp; all_goals with_reducible rfl)
        try simp only [Act.put, List.setIfInBounds_toArray, List.set_cons_zero, List.set_cons_succ]
        refine wpAnyH_take (i := 1) (oi := ?oir1_1) (v := ?vr1_1) ?hir1_1 (by kernel_rfl) (by kernel_rfl) (by kernel_rfl) ?hqr1_1 ?hyr1_1 (by assumption) ?restr1_1
        case hir1_1 => simp only [List.getElem?_toArray, List.getElem?_cons_succ, List.getElem?_cons_zero]; rfl
        case hqr1_1 => exact fun _ _ _ h => h
        case hyr1_1 => (refine Or.inl ⟨by rfl, ?_⟩; intro w hSw; (try dsimp only at hSw); go_simp; all_goals with_reducible rfl)
        try simp only [Act.put, List.setIfInBounds_toArray, List.set_cons_zero, List.set_cons_succ]
        refine wpAnyH_take (i := 2) (oi := ?oir1_2) (v := ?vr1_2) ?hir1_2 (by kernel_rfl) (by kernel_rfl) (by kernel_rfl) ?hqr1_2 ?hyr1_2 (by assumption) ?restr1_2
        case hir1_2 => simp only [List.getElem?_toArray, List.getElem?_cons_succ, List.getElem?_cons_zero]; rfl
        case hqr1_2 => exact fun _ _ _ h => h
        case hyr1_2 => (refine Or.inl ⟨by rfl, ?_⟩; intro w hSw; (try dsimp only at hSw); go_simp; all_goals with_reducible rfl)
        try simp only [Act.put, List.setIfInBounds_toArray, List.set_cons_zero, List.set_cons_succ]
        refine wpAnyH_take (i := 3) (oi := ?oir1_3) (v := ?vr1_3) ?hir1_3 (by kernel_rfl) (by kernel_rfl) (by kernel_rfl) ?hqr1_3 ?hyr1_3 (by assumption) ?restr1_3
        case hir1_3 => simp only [List.getElem?_toArray, List.getElem?_cons_succ, List.getElem?_cons_zero]; rfl
        case hqr1_3 => exact fun _ _ _ h => h
        case hyr1_3 => (refine Or.inl ⟨by rfl, ?_⟩; intro w hSw; (try dsimp only at hSw); go_simp; all_goals with_reducible rfl)
        try simp only [Act.put, List.setIfInBounds_toArray, List.set_cons_zero, List.set_cons_succ]
        refine wpAnyH_take (i := 4) (oi := ?oir1_4) (v := ?vr1_4) ?hir1_4 (by kernel_rfl) (by kernel_rfl) (by kernel_rfl) ?hqr1_4 ?hyr1_4 (by assumption) ?restr1_4
        case hir1_4 => simp only [List.getElem?_toArray, List.getElem?_cons_succ, List.getElem?_cons_zero]; rfl
        case hqr1_4 => exact fun _ _ _ h => h
        case hyr1_4 => (refine Or.inl ⟨by rfl, ?_⟩; intro w hSw; (try dsimp only at hSw); go_simp; all_goals with_reducible rfl)
        try simp only [Act.put, List.setIfInBounds_toArray, List.set_cons_zero, List.set_cons_succ]
        refine wpAnyH_take (i := 5) (oi := ?oir1_5) (v := ?vr1_5) ?hir1_5 (by kernel_rfl) (by kernel_rfl) (by kernel_rfl) ?hqr1_5 ?hyr1_5 (by assumption) ?restr1_5
        case hir1_5 => simp only [List.getElem?_toArray, List.getElem?_cons_succ, List.getElem?_cons_zero]; rfl
        case hqr1_5 => exact fun _ _ _ h => h
        case hyr1_5 => (refine Or.inl ⟨by rfl, ?_⟩; intro w hSw; (try dsimp only at hSw); go_simp; all_goals with_reducible rfl)
        try simp only [Act.put, List.setIfInBounds_toArray, List.set_cons_zero, List.set_cons_succ]
        refine wpAnyH_take (i := 6) (oi := ?oir1_6) (v := ?vr1_6) ?hir1_6 (by kernel_rfl) (by kernel_rfl) (by kernel_rfl) ?hqr1_6 ?hyr1_6 (by assumption) ?restr1_6
        case hir1_6 => simp only [List.getElem?_toArray, List.getElem?_cons_succ, List.getElem?_cons_zero]; rfl
        case hqr1_6 => exact fun _ _ _ h => h
        case hyr1_6 => (refine Or.inl ⟨by rfl, ?_⟩; intro w hSw; (try dsimp only at hSw); go_simp; all_goals with_reducible rfl)
        try simp only [Act.put, List.setIfInBounds_toArray, List.set_cons_zero, List.set_cons_succ]
        refine wpAnyH_take (i := 7) (oi := ?oir1_7) (v := ?vr1_7) ?hir1_7 (by kernel_rfl) (by kernel_rfl) (by kernel_rfl) ?hqr1_7 ?hyr1_7 (by assumption) ?restr1_7
        case hir1_7 => simp only [List.getElem?_toArray, List.getElem?_cons_succ, List.getElem?_cons_zero]; rfl
        case hqr1_7 => exact fun _ _ _ h => h
        case hyr1_7 => (refine Or.inl ⟨by rfl, ?_⟩; intro w hSw; (try dsimp only at hSw); go_simp; all_goals with_reducible rfl)
        try simp only [Act.put, List.setIfInBounds_toArray, List.set_cons_zero, List.set_cons_succ]
        refine wpAnyH_take (i := 8) (oi := ?oir1_8) (v := ?vr1_8) ?hir1_8 (by kernel_rfl) (by kernel_rfl) (by kernel_rfl) ?hqr1_8 ?hyr1_8 (by assumption) ?restr1_8
        case hir1_8 => simp only [List.getElem?_toArray, List.getElem?_cons_succ, List.getElem?_cons_zero]; rfl
        case hqr1_8 => exact fun _ _ _ h => h
        case hyr1_8 => (refine Or.inl ⟨by rfl, ?_⟩; intro w hSw; (try dsimp only at hSw); go_simp; all_goals with_reducible rfl)
        try simp only [Act.put, List.setIfInBounds_toArray, List.set_cons_zero, List.set_cons_succ]
        refine wpAnyH_ready (rs := [9]) (by kernel_rfl) (by simp) ?_
        refine (AllReadyH.cons (o := ?ob6_9) ?hob6_9 (fun K hK => ?kb6_9) AllReadyH.nil)
        case hob6_9 => simp only [List.getElem?_toArray, List.getElem?_cons_succ, List.getElem?_cons_zero]; rfl
        case kb6_9 =>
          go_simp
          obtain ⟨iv, hiv⟩ : ∃ iv, inI out out.length v = iv := ⟨_, rfl⟩
          have HIV := Lib.hid hiv
          clear hiv
          refine (containsI_any _ (ho3.rd oneI) v).mono ?_
          rintro e w9 ⟨rfl, hw9⟩
          subst hw9
          rw [show decide (0 ≤ fstI (fun i => decide (ith out i = v)) m) = iv by rw [fst_inI, ← ho3.len]; exact HIV.out]
          go_wp2_with fail
          refine hK.out _ _ ?_ (fun hHeld => ?_)
          · exact ⟨k13, kL3, kx3⟩
          clear hK K
          try simp only [Act.put, List.setIfInBounds_toArray, List.set_cons_zero, List.set_cons_succ]
          refine wpAnyH_take (i := 10) (oi := ?oir3_10) (v := ?vr3_10) ?hir3_10 (by kernel_rfl) (by kernel_rfl) (by kernel_rfl) ?hqr3_10 ?hyr3_10 (by assumption) ?restr3_10
          case hir3_10 => simp only [List.getElem?_toArray, List.getElem?_cons_succ, List.getElem?_cons_zero]; rfl
          case hqr3_10 => exact fun _ _ _ h => h
          case hyr3_10 => (refine Or.inl ⟨by rfl, ?_⟩; intro w hSw; (try dsimp only at hSw); go_simp; all_goals with_reducible rfl)
          try simp only [Act.put, List.setIfInBounds_toArray, List.set_cons_zero, List.set_cons_succ]
          refine wpAnyH_done (by kernel_rfl) ?_ _
          cases iv
          case true =>
            have HS := Lib.hid (show r = rankS mk n sk (n - (j + 1)) (j + 1) out 0 by rw [HU3.out, HIV.out, HFE.out]; rfl)
            clear hHeld
            go_wp2_with fail
            refine ⟨⟨j + 1, _, _, _, _, out, 0, D :: Ds, _, _, _, _, _, _, _, _, _, _, _, _, _, _, _, _, _, _, _, _, _, _, _, _, _, _, _, _, _, _, _, _, _, _, _, _, _, _, _, _, _, _, _, _, _, _, _, _, _, _, _, _, _, _, _, _, _, _, _, _, _, ⟨by go_num, by omega, by omega, by omega, HSK0.out, by omega, P3, ho3, KX3, Lib.hid (HDS3.out), HS⟩, rfl⟩, ?_⟩
            simp [intOf]
            omega
          case false =>
            have HS := Lib.hid (show r = rankS mk n sk (n - (j + 1)) (j + 1) (out ++ [v]) 0 by rw [HU3.out, HIV.out, HFE.out]; rfl)
            clear hHeld
            have hb := (Below.refl W3.heap.size W3).drew
            go_wp2_with fail
            have P4 := P3.later hb
            have ho4 := ho3.below hb
            have KX4 := KX3.trans (KeepX.of hb)
            have HDS4 := Lib.hid (HDS3.out.below hb)
            have k14 := P4.cell 1 (.slice am m c) rfl
            have kL4 : W3.drew.cell? ⟨W.heap.size, 0, none⟩ = some (.slice (some ⟨gl, 0, none⟩) l.length cl) := kL3
            have kx4 : W3.drew.cell? ⟨gl, 0, none⟩ = some (.int .i64 v) := kx3
            have lL4 : W.heap.size < W3.drew.heap.size := lL3
            have lgl4 : gl < W3.drew.heap.size := lgl3
            clear P3 ho3 KX3 HDS3 k13 kL3 kx3 hb lL3 lgl3
            have W4E : True := trivial
            refine wp_region_any (by kernel_rfl) ?_
            change wpAny _ _ _ _ _ _ _ (World.drew _)
            generalize hW4 : W3.drew = W4 at *
            clear hW4
            have hal := below_al W4 (.cells #[.int .i64 v] 3)
            have P5 := P4.later hal
            have ho5 := ho4.below hal
            have KX5 := KX4.trans (KeepX.of hal)
            have HDS5 := Lib.hid (HDS4.out.below hal)
            have k15 := P5.cell 1 (.slice am m c) rfl
            have hsl5 := sl_alone W4 (.int .i64 v) 3 rfl
            have hws5 : w.heap.size ≤ (W4.alloc (.cells #[.int .i64 v] 3)).heap.size := KX5.1
            clear P4 ho4 KX4 HDS4 hal lL4 lgl4
            refine wpAny_take (i := 0) (oi := ?oir524_0) (v := ?vr524_0) ?hir524_0 (by kernel_rfl) (by kernel_rfl) (by kernel_rfl) ?hqr524_0 ?hyr524_0 ?restr524_0
            case hir524_0 => simp only [List.getElem?_toArray, List.getElem?_cons_succ, List.getElem?_cons_zero]; rfl
            case hqr524_0 => exact fun _ _ _ h => h
            case hyr524_0 => (refine Or.inl ⟨by rfl, ?_⟩; intro w; go_simp; all_goals with_reducible rfl)
            try simp only [Act.put, List.setIfInBounds_toArray, List.set_cons_zero, List.set_cons_succ]
            refine wpAny_take (i := 1) (oi := ?oir524_1) (v := ?vr524_1) ?hir524_1 (by kernel_rfl) (by kernel_rfl) (by kernel_rfl) ?hqr524_1 ?hyr524_1 ?restr524_1
            case hir524_1 => simp only [List.getElem?_toArray, List.getElem?_cons_succ, List.getElem?_cons_zero]; rfl
            case hqr524_1 => exact fun _ _ _ h => h
            case hyr524_1 => (refine Or.inl ⟨by rfl, ?_⟩; intro w; go_simp; all_goals with_reducible rfl)
            try simp only [Act.put, List.setIfInBounds_toArray, List.set_cons_zero, List.set_cons_succ]
            refine wpAny_take (i := 2) (oi := ?oir524_2) (v := ?vr524_2) ?hir524_2 (by kernel_rfl) (by kernel_rfl) (by kernel_rfl) ?hqr524_2 ?hyr524_2 ?restr524_2
            case hir524_2 => simp only [List.getElem?_toArray, List.getElem?_cons_succ, List.getElem?_cons_zero]; rfl
            case hqr524_2 => exact fun _ _ _ h => h
            case hyr524_2 => (refine Or.inl ⟨by rfl, ?_⟩; intro w; go_simp; all_goals with_reducible rfl)
            try simp only [Act.put, List.setIfInBounds_toArray, List.set_cons_zero, List.set_cons_succ]
            refine wpAny_take (i := 3) (oi := ?oir524_3) (v := ?vr524_3) ?hir524_3 (by kernel_rfl) (by kernel_rfl) (by kernel_rfl) ?hqr524_3 ?hyr524_3 ?restr524_3
            case hir524_3 => simp only [List.getElem?_toArray, List.getElem?_cons_succ, List.getElem?_cons_zero]; rfl
            case hqr524_3 => exact fun _ _ _ h => h
            case hyr524_3 => (refine Or.inl ⟨by rfl, ?_⟩; intro w; go_simp; all_goals with_reducible rfl)
            try simp only [Act.put, List.setIfInBounds_toArray, List.set_cons_zero, List.set_cons_succ]
            refine wpAny_take (i := 4) (oi := ?oir524_4) (v := ?vr524_4) ?hir524_4 (by kernel_rfl) (by kernel_rfl) (by kernel_rfl) ?hqr524_4 ?hyr524_4 ?restr524_4
            case hir524_4 => simp only [List.getElem?_toArray, List.getElem?_cons_succ, List.getElem?_cons_zero]; rfl
            case hqr524_4 => exact fun _ _ _ h => h
            case hyr524_4 => (refine Or.inl ⟨by rfl, ?_⟩; intro w; go_simp; all_goals with_reducible rfl)
            try simp only [Act.put, List.setIfInBounds_toArray, List.set_cons_zero, List.set_cons_succ]
            refine wpAny_take (i := 5) (oi := ?oir524_5) (v := ?vr524_5) ?hir524_5 (by kernel_rfl) (by kernel_rfl) (by kernel_rfl) ?hqr524_5 ?hyr524_5 ?restr524_5
            case hir524_5 => simp only [List.getElem?_toArray, List.getElem?_cons_succ, List.getElem?_cons_zero]; rfl
            case hqr524_5 => exact fun _ _ _ h => h
            case hyr524_5 => (refine Or.inl ⟨by rfl, ?_⟩; intro w; go_simp; all_goals with_reducible rfl)
            try simp only [Act.put, List.setIfInBounds_toArray, List.set_cons_zero, List.set_cons_succ]
            refine wpAny_ready (rs := [6, 7]) (by kernel_rfl) (by simp) ?_
            refine (AllReady.cons (o := ?ob525_6) ?hob525_6 (fun K hK => ?kb525_6) (AllReady.cons (o := ?ob525_7) ?hob525_7 (fun K hK => ?kb525_7) AllReady.nil))
            case hob525_6 => simp only [List.getElem?_toArray, List.getElem?_cons_succ, List.getElem?_cons_zero]; rfl
            case hob525_7 => simp only [List.getElem?_toArray, List.getElem?_cons_succ, List.getElem?_cons_zero]; rfl
            case kb525_6 =>
              go_simp
              refine hK _ _ ?_
              clear hK K
              try simp only [Act.put, List.setIfInBounds_toArray, List.set_cons_zero, List.set_cons_succ]
              refine wpAny_ready (rs := [7]) (by kernel_rfl) (by simp) ?_
              refine (AllReady.cons (o := ?ob507_7) ?hob507_7 (fun K hK => ?kb507_7) AllReady.nil)
              case hob507_7 => simp only [List.getElem?_toArray, List.getElem?_cons_succ, List.getElem?_cons_zero]; rfl
              case kb507_7 =>
                go_simp
                refine hK _ _ ?_
                clear hK K
                try simp only [Act.put, List.setIfInBounds_toArray, List.set_cons_zero, List.set_cons_succ]
                refine wpAny_take (i := 8) (oi := ?oir501_8) (v := ?vr501_8) ?hir501_8 (by kernel_rfl) (by kernel_rfl) (by kernel_rfl) ?hqr501_8 ?hyr501_8 ?restr501_8
                case hir501_8 => simp only [List.getElem?_toArray, List.getElem?_cons_succ, List.getElem?_cons_zero]; rfl
                case hqr501_8 => exact fun _ _ _ h => h
                case hyr501_8 => (refine Or.inl ⟨by rfl, ?_⟩; intro w; go_simp; all_goals with_reducible rfl)
                try simp only [Act.put, List.setIfInBounds_toArray, List.set_cons_zero, List.set_cons_succ]
                refine wpAny_ready (rs := [9]) (by kernel_rfl) (by simp) ?_
                refine (AllReady.cons (o := ?ob506_9) ?hob506_9 (fun K hK => ?kb506_9) AllReady.nil)
                case hob506_9 => simp only [List.getElem?_toArray, List.getElem?_cons_succ, List.getElem?_cons_zero]; rfl
                case kb506_9 =>
                  go_simp
                  refine hK _ _ ?_
                  clear hK K
                  try simp only [Act.put, List.setIfInBounds_toArray, List.set_cons_zero, List.set_cons_succ]
                  refine wpAny_ready (rs := [10]) (by kernel_rfl) (by simp) ?_
                  refine (AllReady.cons (o := ?ob505_10) ?hob505_10 (fun K hK => ?kb505_10) AllReady.nil)
                  case hob505_10 => simp only [List.getElem?_toArray, List.getElem?_cons_succ, List.getElem?_cons_zero]; rfl
                  case kb505_10 =>
                    go_simp
                    refine hK _ _ ?_
                    clear hK K
                    try simp only [Act.put, List.setIfInBounds_toArray, List.set_cons_zero, List.set_cons_succ]
                    refine wpAny_ready (rs := [11]) (by kernel_rfl) (by simp) ?_
                    refine (AllReady.cons (o := ?ob504_11) ?hob504_11 (fun K hK => ?kb504_11) AllReady.nil)
                    case hob504_11 => simp only [List.getElem?_toArray, List.getElem?_cons_succ, List.getElem?_cons_zero]; rfl
                    case kb504_11 =>
                      rw [if_pos (by rfl)]
                      refine opApp _ _ 37 rfl etI w.heap.size rfl ho5.own rfl rfl hsl5 (by unfold maxLen; omega) (by omega) (by omega) ?_
                      intro a' c' w6 hown hgr hbq
                      have P6 := P5.grown (by decide) ho5.own hgr (hbq.mono hw0)
                      have ho6 : OwI w.heap.size w6 a' (m + 1) c' (out ++ [v]) := ho5.snoc hvo rfl hown
                      have KX6 : KeepX rp w w6 := ⟨Nat.le_trans KX5.1 hgr.size, fun k h1 h2 => (hbq.block k h1).trans (KX5.2 k h1 h2)⟩
                      have HDS6 := Lib.hid (DsW.keep HDS5.out fun k hk => (hgr.block k (Array.getElem?_eq_some_iff.1 hk).1 (own_not_def ho5.own hk)).trans hk)
                      clear hown hgr hbq P5 ho5 KX5 HDS5 k15
                      have k16 := P6.cell 1 (.slice am m c) rfl
                      have f16 := P6.free 1
                      refine hK _ _ ?_
                      clear hK K
                      try simp only [Act.put, List.setIfInBounds_toArray, List.set_cons_zero, List.set_cons_succ]
                      refine wpAny_take (i := 12) (oi := ?oir502_12) (v := ?vr502_12) ?hir502_12 (by kernel_rfl) (by kernel_rfl) (by kernel_rfl) ?hqr502_12 ?hyr502_12 ?restr502_12
                      case hir502_12 => simp only [List.getElem?_toArray, List.getElem?_cons_succ, List.getElem?_cons_zero]; rfl
                      case hqr502_12 => exact fun _ _ _ h => h
                      case hyr502_12 => (refine Or.inl ⟨by rfl, ?_⟩; intro w; go_simp; all_goals with_reducible rfl)
                      try simp only [Act.put, List.setIfInBounds_toArray, List.set_cons_zero, List.set_cons_succ]
                      refine wpAny_take (i := 13) (oi := ?oir502_13) (v := ?vr502_13) ?hir502_13 (by kernel_rfl) (by kernel_rfl) (by kernel_rfl) ?hqr502_13 ?hyr502_13 ?restr502_13
                      case hir502_13 => simp only [List.getElem?_toArray, List.getElem?_cons_succ, List.getElem?_cons_zero]; rfl
                      case hqr502_13 => exact fun _ _ _ h => h
                      case hyr502_13 => (refine Or.inl ⟨by rfl, ?_⟩; intro w; go_simp; all_goals with_reducible rfl)
                      try simp only [Act.put, List.setIfInBounds_toArray, List.set_cons_zero, List.set_cons_succ]
                      refine wpAny_take (i := 14) (oi := ?oir502_14) (v := ?vr502_14) ?hir502_14 (by kernel_rfl) (by kernel_rfl) (by kernel_rfl) ?hqr502_14 ?hyr502_14 ?restr502_14
                      case hir502_14 => simp only [List.getElem?_toArray, List.getElem?_cons_succ, List.getElem?_cons_zero]; rfl
                      case hqr502_14 => exact fun _ _ _ h => h
                      case hyr502_14 => (refine Or.inl ⟨by rfl, ?_⟩; intro w; go_simp; all_goals with_reducible rfl)
                      try simp only [Act.put, List.setIfInBounds_toArray, List.set_cons_zero, List.set_cons_succ]
                      refine wpAny_take (i := 15) (oi := ?oir502_15) (v := ?vr502_15) ?hir502_15 (by kernel_rfl) (by kernel_rfl) (by kernel_rfl) ?hqr502_15 ?hyr502_15 ?restr502_15
                      case hir502_15 => simp only [List.getElem?_toArray, List.getElem?_cons_succ, List.getElem?_cons_zero]; rfl
                      case hqr502_15 => exact fun _ _ _ h => h
                      case hyr502_15 => (refine Or.inl ⟨by rfl, ?_⟩; intro w; go_simp; all_goals with_reducible rfl)
                      try simp only [Act.put, List.setIfInBounds_toArray, List.set_cons_zero, List.set_cons_succ]
                      refine wpAny_ready (rs := [16]) (by kernel_rfl) (by simp) ?_
                      refine (AllReady.cons (o := ?ob503_16) ?hob503_16 (fun K hK => ?kb503_16) AllReady.nil)
                      case hob503_16 => simp only [List.getElem?_toArray, List.getElem?_cons_succ, List.getElem?_cons_zero]; rfl
                      case kb503_16 =>
                        go_simp
                        refine hK _ _ ?_
                        clear hK K
                        try simp only [Act.put, List.setIfInBounds_toArray, List.set_cons_zero, List.set_cons_succ]
                        refine wpAny_done (by kernel_rfl) ?_ _
                        go_wp2_with fail
                        refine ⟨⟨j + 1, _, _, _, _, out ++ [v], 0, D :: Ds, _, _, _, _, _, _, _, _, _, _, _, _, _, _, _, _, _, _, _, _, _, _, _, _, _, _, _, _, _, _, _, _, _, _, _, _, _, _, _, _, _, _, _, _, _, _, _, _, _, _, _, _, _, _, _, _, _, _, _, _, _, ⟨by go_num, by omega, by omega, by omega, HSK0.out, by omega, P6.set 1 _, ho6.setHi P6.row (by decide) _, KX6.set 1 _, Lib.hid (HDS6.out.set P6.row _), HS⟩, rfl⟩, ?_⟩
                        simp [intOf]
                        omega
            case kb525_7 =>
              go_simp
              refine hK _ _ ?_
              clear hK K
              try simp only [Act.put, List.setIfInBounds_toArray, List.set_cons_zero, List.set_cons_succ]
              refine wpAny_take (i := 8) (oi := ?oir522_8) (v := ?vr522_8) ?hir522_8 (by kernel_rfl) (by kernel_rfl) (by kernel_rfl) ?hqr522_8 ?hyr522_8 ?restr522_8
              case hir522_8 => simp only [List.getElem?_toArray, List.getElem?_cons_succ, List.getElem?_cons_zero]; rfl
              case hqr522_8 => exact fun _ _ _ h => h
              case hyr522_8 => (refine Or.inl ⟨by rfl, ?_⟩; intro w; go_simp; all_goals with_reducible rfl)
              try simp only [Act.put, List.setIfInBounds_toArray, List.set_cons_zero, List.set_cons_succ]
              refine wpAny_ready (rs := [6, 9]) (by kernel_rfl) (by simp) ?_
              refine (AllReady.cons (o := ?ob523_6) ?hob523_6 (fun K hK => ?kb523_6) (AllReady.cons (o := ?ob523_9) ?hob523_9 (fun K hK => ?kb523_9) AllReady.nil))
              case hob523_6 => simp only [List.getElem?_toArray, List.getElem?_cons_succ, List.getElem?_cons_zero]; rfl
              case hob523_9 => simp only [List.getElem?_toArray, List.getElem?_cons_succ, List.getElem?_cons_zero]; rfl
              case kb523_6 =>
                go_simp
                refine hK _ _ ?_
                clear hK K
                try simp only [Act.put, List.setIfInBounds_toArray, List.set_cons_zero, List.set_cons_succ]
                refine wpAny_ready (rs := [9]) (by kernel_rfl) (by simp) ?_
                refine (AllReady.cons (o := ?ob512_9) ?hob512_9 (fun K hK => ?kb512_9) AllReady.nil)
                case hob512_9 => simp only [List.getElem?_toArray, List.getElem?_cons_succ, List.getElem?_cons_zero]; rfl
                case kb512_9 =>
                  go_simp
                  refine hK _ _ ?_
                  clear hK K
                  try simp only [Act.put, List.setIfInBounds_toArray, List.set_cons_zero, List.set_cons_succ]
                  refine wpAny_ready (rs := [10]) (by kernel_rfl) (by simp) ?_
                  refine (AllReady.cons (o := ?ob511_10) ?hob511_10 (fun K hK => ?kb511_10) AllReady.nil)
                  case hob511_10 => simp only [List.getElem?_toArray, List.getElem?_cons_succ, List.getElem?_cons_zero]; rfl
                  case kb511_10 =>
                    go_simp
                    refine hK _ _ ?_
                    clear hK K
                    try simp only [Act.put, List.setIfInBounds_toArray, List.set_cons_zero, List.set_cons_succ]
                    refine wpAny_ready (rs := [11]) (by kernel_rfl) (by simp) ?_
                    refine (AllReady.cons (o := ?ob510_11) ?hob510_11 (fun K hK => ?kb510_11) AllReady.nil)
                    case hob510_11 => simp only [List.getElem?_toArray, List.getElem?_cons_succ, List.getElem?_cons_zero]; rfl
                    case kb510_11 =>
                      rw [if_pos (by rfl)]
                      refine opApp _ _ 37 rfl etI w.heap.size rfl ho5.own rfl rfl hsl5 (by unfold maxLen; omega) (by omega) (by omega) ?_
                      intro a' c' w6 hown hgr hbq
                      have P6 := P5.grown (by decide) ho5.own hgr (hbq.mono hw0)
                      have ho6 : OwI w.heap.size w6 a' (m + 1) c' (out ++ [v]) := ho5.snoc hvo rfl hown
                      have KX6 : KeepX rp w w6 := ⟨Nat.le_trans KX5.1 hgr.size, fun k h1 h2 => (hbq.block k h1).trans (KX5.2 k h1 h2)⟩
                      have HDS6 := Lib.hid (DsW.keep HDS5.out fun k hk => (hgr.block k (Array.getElem?_eq_some_iff.1 hk).1 (own_not_def ho5.own hk)).trans hk)
                      clear hown hgr hbq P5 ho5 KX5 HDS5 k15
                      have k16 := P6.cell 1 (.slice am m c) rfl
                      have f16 := P6.free 1
                      refine hK _ _ ?_
                      clear hK K
                      try simp only [Act.put, List.setIfInBounds_toArray, List.set_cons_zero, List.set_cons_succ]
                      refine wpAny_take (i := 12) (oi := ?oir508_12) (v := ?vr508_12) ?hir508_12 (by kernel_rfl) (by kernel_rfl) (by kernel_rfl) ?hqr508_12 ?hyr508_12 ?restr508_12
                      case hir508_12 => simp only [List.getElem?_toArray, List.getElem?_cons_succ, List.getElem?_cons_zero]; rfl
                      case hqr508_12 => exact fun _ _ _ h => h
                      case hyr508_12 => (refine Or.inl ⟨by rfl, ?_⟩; intro w; go_simp; all_goals with_reducible rfl)
                      try simp only [Act.put, List.setIfInBounds_toArray, List.set_cons_zero, List.set_cons_succ]
                      refine wpAny_take (i := 13) (oi := ?oir508_13) (v := ?vr508_13) ?hir508_13 (by kernel_rfl) (by kernel_rfl) (by kernel_rfl) ?hqr508_13 ?hyr508_13 ?restr508_13
                      case hir508_13 => simp only [List.getElem?_toArray, List.getElem?_cons_succ, List.getElem?_cons_zero]; rfl
                      case hqr508_13 => exact fun _ _ _ h => h
                      case hyr508_13 => (refine Or.inl ⟨by rfl, ?_⟩; intro w; go_simp; all_goals with_reducible rfl)
                      try simp only [Act.put, List.setIfInBounds_toArray, List.set_cons_zero, List.set_cons_succ]
                      refine wpAny_take (i := 14) (oi := ?oir508_14) (v := ?vr508_14) ?hir508_14 (by kernel_rfl) (by kernel_rfl) (by kernel_rfl) ?hqr508_14 ?hyr508_14 ?restr508_14
                      case hir508_14 => simp only [List.getElem?_toArray, List.getElem?_cons_succ, List.getElem?_cons_zero]; rfl
                      case hqr508_14 => exact fun _ _ _ h => h
                      case hyr508_14 => (refine Or.inl ⟨by rfl, ?_⟩; intro w; go_simp; all_goals with_reducible rfl)
                      try simp only [Act.put, List.setIfInBounds_toArray, List.set_cons_zero, List.set_cons_succ]
                      refine wpAny_take (i := 15) (oi := ?oir508_15) (v := ?vr508_15) ?hir508_15 (by kernel_rfl) (by kernel_rfl) (by kernel_rfl) ?hqr508_15 ?hyr508_15 ?restr508_15
                      case hir508_15 => simp only [List.getElem?_toArray, List.getElem?_cons_succ, List.getElem?_cons_zero]; rfl
                      case hqr508_15 => exact fun _ _ _ h => h
                      case hyr508_15 => (refine Or.inl ⟨by rfl, ?_⟩; intro w; go_simp; all_goals with_reducible rfl)
                      try simp only [Act.put, List.setIfInBounds_toArray, List.set_cons_zero, List.set_cons_succ]
                      refine wpAny_ready (rs := [16]) (by kernel_rfl) (by simp) ?_
                      refine (AllReady.cons (o := ?ob509_16) ?hob509_16 (fun K hK => ?kb509_16) AllReady.nil)
                      case hob509_16 => simp only [List.getElem?_toArray, List.getElem?_cons_succ, List.getElem?_cons_zero]; rfl
                      case kb509_16 =>
                        go_simp
                        refine hK _ _ ?_
                        clear hK K
                        try simp only [Act.put, List.setIfInBounds_toArray, List.set_cons_zero, List.set_cons_succ]
                        refine wpAny_done (by kernel_rfl) ?_ _
                        go_wp2_with fail
                        refine ⟨⟨j + 1, _, _, _, _, out ++ [v], 0, D :: Ds, _, _, _, _, _, _, _, _, _, _, _, _, _, _, _, _, _, _, _, _, _, _, _, _, _, _, _, _, _, _, _, _, _, _, _, _, _, _, _, _, _, _, _, _, _, _, _, _, _, _, _, _, _, _, _, _, _, _, _, _, _, ⟨by go_num, by omega, by omega, by omega, HSK0.out, by omega, P6.set 1 _, ho6.setHi P6.row (by decide) _, KX6.set 1 _, Lib.hid (HDS6.out.set P6.row _), HS⟩, rfl⟩, ?_⟩
                        simp [intOf]
                        omega
              case kb523_9 =>
                go_simp
                refine hK _ _ ?_
                clear hK K
                try simp only [Act.put, List.setIfInBounds_toArray, List.set_cons_zero, List.set_cons_succ]
                refine wpAny_ready (rs := [6, 10]) (by kernel_rfl) (by simp) ?_
                refine (AllReady.cons (o := ?ob521_6) ?hob521_6 (fun K hK => ?kb521_6) (AllReady.cons (o := ?ob521_10) ?hob521_10 (fun K hK => ?kb521_10) AllReady.nil))
                case hob521_6 => simp only [List.getElem?_toArray, List.getElem?_cons_succ, List.getElem?_cons_zero]; rfl
                case hob521_10 => simp only [List.getElem?_toArray, List.getElem?_cons_succ, List.getElem?_cons_zero]; rfl
                case kb521_6 =>
                  go_simp
                  refine hK _ _ ?_
                  clear hK K
                  try simp only [Act.put, List.setIfInBounds_toArray, List.set_cons_zero, List.set_cons_succ]
                  refine wpAny_ready (rs := [10]) (by kernel_rfl) (by simp) ?_
                  refine (AllReady.cons (o := ?ob516_10) ?hob516_10 (fun K hK => ?kb516_10) AllReady.nil)
                  case hob516_10 => simp only [List.getElem?_toArray, List.getElem?_cons_succ, List.getElem?_cons_zero]; rfl
                  case kb516_10 =>
                    go_simp
                    refine hK _ _ ?_
                    clear hK K
                    try simp only [Act.put, List.setIfInBounds_toArray, List.set_cons_zero, List.set_cons_succ]
                    refine wpAny_ready (rs := [11]) (by kernel_rfl) (by simp) ?_
                    refine (AllReady.cons (o := ?ob515_11) ?hob515_11 (fun K hK => ?kb515_11) AllReady.nil)
                    case hob515_11 => simp only [List.getElem?_toArray, List.getElem?_cons_succ, List.getElem?_cons_zero]; rfl
                    case kb515_11 =>
                      rw [if_pos (by rfl)]
                      refine opApp _ _ 37 rfl etI w.heap.size rfl ho5.own rfl rfl hsl5 (by unfold maxLen; omega) (by omega) (by omega) ?_
                      intro a' c' w6 hown hgr hbq
                      have P6 := P5.grown (by decide) ho5.own hgr (hbq.mono hw0)
                      have ho6 : OwI w.heap.size w6 a' (m + 1) c' (out ++ [v]) := ho5.snoc hvo rfl hown
                      have KX6 : KeepX rp w w6 := ⟨Nat.le_trans KX5.1 hgr.size, fun k h1 h2 => (hbq.block k h1).trans (KX5.2 k h1 h2)⟩
                      have HDS6 := Lib.hid (DsW.keep HDS5.out fun k hk => (hgr.block k (Array.getElem?_eq_some_iff.1 hk).1 (own_not_def ho5.own hk)).trans hk)
                      clear hown hgr hbq P5 ho5 KX5 HDS5 k15
                      have k16 := P6.cell 1 (.slice am m c) rfl
                      have f16 := P6.free 1
                      refine hK _ _ ?_
                      clear hK K
                      try simp only [Act.put, List.setIfInBounds_toArray, List.set_cons_zero, List.set_cons_succ]
                      refine wpAny_take (i := 12) (oi := ?oir513_12) (v := ?vr513_12) ?hir513_12 (by kernel_rfl) (by kernel_rfl) (by kernel_rfl) ?hqr513_12 ?hyr513_12 ?restr513_12
                      case hir513_12 => simp only [List.getElem?_toArray, List.getElem?_cons_succ, List.getElem?_cons_zero]; rfl
                      case hqr513_12 => exact fun _ _ _ h => h
                      case hyr513_12 => (refine Or.inl ⟨by rfl, ?_⟩; intro w; go_simp; all_goals with_reducible rfl)
                      try simp only [Act.put, List.setIfInBounds_toArray, List.set_cons_zero, List.set_cons_succ]
                      refine wpAny_take (i := 13) (oi := ?oir513_13) (v := ?vr513_13) ?hir513_13 (by kernel_rfl) (by kernel_rfl) (by kernel_rfl) ?hqr513_13 ?hyr513_13 ?restr513_13
                      case hir513_13 => simp only [List.getElem?_toArray, List.getElem?_cons_succ, List.getElem?_cons_zero]; rfl
                      case hqr513_13 => exact fun _ _ _ h => h
                      case hyr513_13 => (refine Or.inl ⟨by rfl, ?_⟩; intro w; go_simp; all_goals with_reducible rfl)
                      try simp only [Act.put, List.setIfInBounds_toArray, List.set_cons_zero, List.set_cons_succ]
                      refine wpAny_take (i := 14) (oi := ?oir513_14) (v := ?vr513_14) ?hir513_14 (by kernel_rfl) (by kernel_rfl) (by kernel_rfl) ?hqr513_14 ?hyr513_14 ?restr513_14
                      case hir513_14 => simp only [List.getElem?_toArray, List.getElem?_cons_succ, List.getElem?_cons_zero]; rfl
                      case hqr513_14 => exact fun _ _ _ h => h
                      case hyr513_14 => (refine Or.inl ⟨by rfl, ?_⟩; intro w; go_simp; all_goals with_reducible rfl)
                      try simp only [Act.put, List.setIfInBounds_toArray, List.set_cons_zero, List.set_cons_succ]
                      refine wpAny_take (i := 15) (oi := ?oir513_15) (v := ?vr513_15) ?hir513_15 (by kernel_rfl) (by kernel_rfl) (by kernel_rfl) ?hqr513_15 ?hyr513_15 ?restr513_15
                      case hir513_15 => simp only [List.getElem?_toArray, List.getElem?_cons_succ, List.getElem?_cons_zero]; rfl
                      case hqr513_15 => exact fun _ _ _ h => h
                      case hyr513_15 => (refine Or.inl ⟨by rfl, ?_⟩; intro w; go_simp; all_goals with_reducible rfl)
                      try simp only [Act.put, List.setIfInBounds_toArray, List.set_cons_zero, List.set_cons_succ]
                      refine wpAny_ready (rs := [16]) (by kernel_rfl) (by simp) ?_
                      refine (AllReady.cons (o := ?ob514_16) ?hob514_16 (fun K hK => ?kb514_16) AllReady.nil)
                      case hob514_16 => simp only [List.getElem?_toArray, List.getElem?_cons_succ, List.getElem?_cons_zero]; rfl
                      case kb514_16 =>
                        go_simp
                        refine hK _ _ ?_
                        clear hK K
                        try simp only [Act.put, List.setIfInBounds_toArray, List.set_cons_zero, List.set_cons_succ]
                        refine wpAny_done (by kernel_rfl) ?_ _
                        go_wp2_with fail
                        refine ⟨⟨j + 1, _, _, _, _, out ++ [v], 0, D :: Ds, _, _, _, _, _, _, _, _, _, _, _, _, _, _, _, _, _, _, _, _, _, _, _, _, _, _, _, _, _, _, _, _, _, _, _, _, _, _, _, _, _, _, _, _, _, _, _, _, _, _, _, _, _, _, _, _, _, _, _, _, _, ⟨by go_num, by omega, by omega, by omega, HSK0.out, by omega, P6.set 1 _, ho6.setHi P6.row (by decide) _, KX6.set 1 _, Lib.hid (HDS6.out.set P6.row _), HS⟩, rfl⟩, ?_⟩
                        simp [intOf]
                        omega
                case kb521_10 =>
                  go_simp
                  refine hK _ _ ?_
                  clear hK K
                  try simp only [Act.put, List.setIfInBounds_toArray, List.set_cons_zero, List.set_cons_succ]
                  refine wpAny_ready (rs := [6]) (by kernel_rfl) (by simp) ?_
                  refine (AllReady.cons (o := ?ob520_6) ?hob520_6 (fun K hK => ?kb520_6) AllReady.nil)
                  case hob520_6 => simp only [List.getElem?_toArray, List.getElem?_cons_succ, List.getElem?_cons_zero]; rfl
                  case kb520_6 =>
                    go_simp
                    refine hK _ _ ?_
                    clear hK K
                    try simp only [Act.put, List.setIfInBounds_toArray, List.set_cons_zero, List.set_cons_succ]
                    refine wpAny_ready (rs := [11]) (by kernel_rfl) (by simp) ?_
                    refine (AllReady.cons (o := ?ob519_11) ?hob519_11 (fun K hK => ?kb519_11) AllReady.nil)
                    case hob519_11 => simp only [List.getElem?_toArray, List.getElem?_cons_succ, List.getElem?_cons_zero]; rfl
                    case kb519_11 =>
                      rw [if_pos (by rfl)]
                      refine opApp _ _ 37 rfl etI w.heap.size rfl ho5.own rfl rfl hsl5 (by unfold maxLen; omega) (by omega) (by omega) ?_
                      intro a' c' w6 hown hgr hbq
                      have P6 := P5.grown (by decide) ho5.own hgr (hbq.mono hw0)
                      have ho6 : OwI w.heap.size w6 a' (m + 1) c' (out ++ [v]) := ho5.snoc hvo rfl hown
                      have KX6 : KeepX rp w w6 := ⟨Nat.le_trans KX5.1 hgr.size, fun k h1 h2 => (hbq.block k h1).trans (KX5.2 k h1 h2)⟩
                      have HDS6 := Lib.hid (DsW.keep HDS5.out fun k hk => (hgr.block k (Array.getElem?_eq_some_iff.1 hk).1 (own_not_def ho5.own hk)).trans hk)
                      clear hown hgr hbq P5 ho5 KX5 HDS5 k15
                      have k16 := P6.cell 1 (.slice am m c) rfl
                      have f16 := P6.free 1
                      refine hK _ _ ?_
                      clear hK K
                      try simp only [Act.put, List.setIfInBounds_toArray, List.set_cons_zero, List.set_cons_succ]
                      refine wpAny_take (i := 12) (oi := ?oir517_12) (v := ?vr517_12) ?hir517_12 (by kernel_rfl) (by kernel_rfl) (by kernel_rfl) ?hqr517_12 ?hyr517_12 ?restr517_12
                      case hir517_12 => simp only [List.getElem?_toArray, List.getElem?_cons_succ, List.getElem?_cons_zero]; rfl
                      case hqr517_12 => exact fun _ _ _ h => h
                      case hyr517_12 => (refine Or.inl ⟨by rfl, ?_⟩; intro w; go_simp; all_goals with_reducible rfl)
                      try simp only [Act.put, List.setIfInBounds_toArray, List.set_cons_zero, List.set_cons_succ]
                      refine wpAny_take (i := 13) (oi := ?oir517_13) (v := ?vr517_13) ?hir517_13 (by kernel_rfl) (by kernel_rfl) (by kernel_rfl) ?hqr517_13 ?hyr517_13 ?restr517_13
                      case hir517_13 => simp only [List.getElem?_toArray, List.getElem?_cons_succ, List.getElem?_cons_zero]; rfl
                      case hqr517_13 => exact fun _ _ _ h => h
                      case hyr517_13 => (refine Or.inl ⟨by rfl, ?_⟩; intro w; go_simp; all_goals with_reducible rfl)
                      try simp only [Act.put, List.setIfInBounds_toArray, List.set_cons_zero, List.set_cons_succ]
                      refine wpAny_take (i := 14) (oi := ?oir517_14) (v := ?vr517_14) ?hir517_14 (by kernel_rfl) (by kernel_rfl) (by kernel_rfl) ?hqr517_14 ?hyr517_14 ?restr517_14
                      case hir517_14 => simp only [List.getElem?_toArray, List.getElem?_cons_succ, List.getElem?_cons_zero]; rfl
                      case hqr517_14 => exact fun _ _ _ h => h
                      case hyr517_14 => (refine Or.inl ⟨by rfl, ?_⟩; intro w; go_simp; all_goals with_reducible rfl)
                      try simp only [Act.put, List.setIfInBounds_toArray, List.set_cons_zero, List.set_cons_succ]
                      refine wpAny_take (i := 15) (oi := ?oir517_15) (v := ?vr517_15) ?hir517_15 (by kernel_rfl) (by kernel_rfl) (by kernel_rfl) ?hqr517_15 ?hyr517_15 ?restr517_15
                      case hir517_15 => simp only [List.getElem?_toArray, List.getElem?_cons_succ, List.getElem?_cons_zero]; rfl
                      case hqr517_15 => exact fun _ _ _ h => h
                      case hyr517_15 => (refine Or.inl ⟨by rfl, ?_⟩; intro w; go_simp; all_goals with_reducible rfl)
                      try simp only [Act.put, List.setIfInBounds_toArray, List.set_cons_zero, List.set_cons_succ]
                      refine wpAny_ready (rs := [16]) (by kernel_rfl) (by simp) ?_
                      refine (AllReady.cons (o := ?ob518_16) ?hob518_16 (fun K hK => ?kb518_16) AllReady.nil)
                      case hob518_16 => simp only [List.getElem?_toArray, List.getElem?_cons_succ, List.getElem?_cons_zero]; rfl
                      case kb518_16 =>
                        go_simp
                        refine hK _ _ ?_
                        clear hK K
                        try simp only [Act.put, List.setIfInBounds_toArray, List.set_cons_zero, List.set_cons_succ]
                        refine wpAny_done (by kernel_rfl) ?_ _
                        go_wp2_with fail
                        refine ⟨⟨j + 1, _, _, _, _, out ++ [v], 0, D :: Ds, _, _, _, _, _, _, _, _, _, _, _, _, _, _, _, _, _, _, _, _, _, _, _, _, _, _, _, _, _, _, _, _, _, _, _, _, _, _, _, _, _, _, _, _, _, _, _, _, _, _, _, _, _, _, _, _, _, _, _, _, _, ⟨by go_num, by omega, by omega, by omega, HSK0.out, by omega, P6.set 1 _, ho6.setHi P6.row (by decide) _, KX6.set 1 _, Lib.hid (HDS6.out.set P6.row _), HS⟩, rfl⟩, ?_⟩
                        simp [intOf]
                        omega

end Go.Proofs.Ytlfempfhohejiaa
