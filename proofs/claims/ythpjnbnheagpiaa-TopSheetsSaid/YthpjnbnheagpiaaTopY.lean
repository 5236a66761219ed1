/- Records: the iterator over the ballots of all batches. Conditions: valid records of at most three batches. -/
import Derived.Test.YthpjnbnheagpiaaTopX
import Derived.RangeFuncNested
import Derived.RangeFuncBound
namespace Go.Proofs.Ythpjnbnheagpiaa
open Go.RowKit Go.Suf Go.Shelf
set_option linter.unusedVariables false
set_option linter.unusedSimpArgs false
attribute [local go_sem] Oper.semAt_some

theorem wpListIn_store_new {F : Fence} {n : Nat} {P : Program} {ops : Array Oper} {rest : List Oper} {o : Oper} {a : Act} {w : World} {Q : Exit → Act → World → Prop} (hgd : o.guard = none) (t : TypeId) (x y : Operand) (ho : o.op = .store t x y) {m : Nat} (A : AT P t m)
    (cur vs : Array Value) (e : TypeId) (hx : a.eval x = .pointer (some ⟨w.heap.size, 0, none⟩)) (hy : a.eval y = .agg vs) (hm : vs.size = m) (hcur : cur.size = m) (h1 : ∀ u ∈ vs.toList, u.oneCell' = true)
    (h : wpListIn F n P ops Q rest (a.put o.dst undef) (w.alloc (.cells vs e))) : wpListIn F n P ops Q (o :: rest) a (w.alloc (.cells cur e)) := by
  refine wpListIn_plain hgd fun K hK => ?_
  have hst := run_storeCells_at P w.heap.size 0 e vs.toList 0 cur (w.alloc (.cells cur e)) (heap_alloc_new w _) (by simp; omega) h1
  simp only [Nat.add_zero, List.take_zero, List.nil_append, Array.length_toList] at hst
  rw [List.drop_eq_nil_of_le (by simp; omega), List.append_nil, Array.toArray_toList, setRow_alloc] at hst
  unfold Oper.wpIn
  refine ⟨?_, ?_⟩
  · simp [Oper.about, ho]
  · rw [Oper.semAt_plain F _ _ (by rw [ho]; intro c hc'; cases hc')]
    unfold execOp
    simp only [ho, hx, hy, Instr.storeAt, Instr.sureAddr, Sem.run_bind, Sem.run_pure, Result.andThen_ok, storeVar, A.sizeOf, Value.cells, hm]
    simp only [ne_eq, not_true_eq_false, if_false, hst]
    exact hK _ _ h
theorem wpListIn_store_whole {F : Fence} {n : Nat} {P : Program} {ops : Array Oper} {rest : List Oper} {o : Oper} {a : Act} {w : World} {Q : Exit → Act → World → Prop} (hgd : o.guard = none) (t : TypeId) (x y : Operand) (ho : o.op = .store t x y) {m : Nat} (A : AT P t m)
    {b : Nat} (cur vs : Array Value) (e : TypeId) (hg : w.heap[b]? = some (.cells cur e (0, 0))) (hx : a.eval x = .pointer (some ⟨b, 0, none⟩)) (hy : a.eval y = .agg vs) (hm : vs.size = m) (hcur : cur.size = m) (h1 : ∀ u ∈ vs.toList, u.oneCell' = true)
    (h : wpListIn F n P ops Q rest (a.put o.dst undef) (w.setRow b vs)) : wpListIn F n P ops Q (o :: rest) a w := by
  refine wpListIn_plain hgd fun K hK => ?_
  have hst := run_storeCells_at P b 0 e vs.toList 0 cur w hg (by simp; omega) h1
  simp only [Nat.add_zero, List.take_zero, List.nil_append, Array.length_toList] at hst
  rw [List.drop_eq_nil_of_le (by simp; omega), List.append_nil, Array.toArray_toList] at hst
  unfold Oper.wpIn
  refine ⟨?_, ?_⟩
  · simp [Oper.about, ho]
  · rw [Oper.semAt_plain F _ _ (by rw [ho]; intro c hc'; cases hc')]
    unfold execOp
    simp only [ho, hx, hy, Instr.storeAt, Instr.sureAddr, Sem.run_bind, Sem.run_pure, Result.andThen_ok, storeVar, A.sizeOf, Value.cells, hm]
    simp only [ne_eq, not_true_eq_false, if_false, hst]
    exact hK _ _ h

/-- The marks of all ballots. -/
def allB (l : List CQ) : List (List Int) := l.flatMap fun c => c.bs.map BQ.ms
theorem allB_take {l : List CQ} {i : Nat} {x : CQ} (h : l[i]? = some x) : allB (l.take (i + 1)) = allB (l.take i) ++ x.bs.map BQ.ms := by
  obtain ⟨hi, e⟩ := List.getElem?_eq_some_iff.1 h
  unfold allB
  rw [List.take_succ_eq_append_getElem hi, List.flatMap_append, e]
  simp
theorem allB_len {l : List CQ} (h : ∀ x ∈ l, x.bs.length ≤ 64) : (allB l).length ≤ 64 * l.length := by
  induction l with
  | nil => exact Nat.le_refl _
  | cons x l ih =>
    have h1 := h x (by simp)
    have h2 := ih fun y hy => h y (List.mem_cons_of_mem _ hy)
    show (x.bs.map BQ.ms ++ allB l).length ≤ _
    rw [List.length_append, List.length_map, List.length_cons]
    omega
theorem allB_split {l : List CQ} {i : Nat} {x : CQ} (h : l[i]? = some x) : ∃ r, allB (l.take i) ++ x.bs.map BQ.ms ++ r = allB l := by
  refine ⟨allB (l.drop (i + 1)), ?_⟩
  rw [← allB_take h]
  unfold allB
  rw [← List.flatMap_append, List.take_append_drop]
/-- A ballot of a list, as it lay in w. -/
structure BV (w : World) (kd : Nat) (cn : Int) where
  ms : List Int
  a : Option Addr
  n : Nat
  c : Nat
  rd : RdI w a n c ms
  ok : ballC kd ms cn = 0
abbrev encBV {w : World} {kd : Nat} {cn : Int} (x : BV w kd cn) : Array Value := #[.agg #[.int .u8 ((kd : Nat) : Int), .slice x.a x.n x.c]]

set_option maxRecDepth 100000 in
set_option maxHeartbeats 4000000 in
theorem ballots1_in (w : World) (kd : Nat) (cn : Int) {a_l : Option Addr} {n_l c_l : Nat} {l : List CQ} (h_l : RdC w a_l n_l c_l l) (hW : RecW kd cn l) (nn L gl : Nat) (J Jx : List (BV w kd cn) → World → Prop)
    (hD : ∀ pre W o, J pre W → J pre (W.alloc o))
    (hY : ∀ pre x W1, J pre W1 → pre.length < 1000 → YieldAt Fence.wide (nn - 1) Try.prog L (encBV x) W1 fun e W' =>
      (e = .returned (.bool true) ∧ J (pre ++ [x]) W' ∧ Below w.heap.size W1 W') ∨ (e = .returned (.bool false) ∧ Jx (pre ++ [x]) W'))
    (W : World) (hb : Below w.heap.size w W) (hg : W.cell? ⟨gl, 0, none⟩ = some (.slice a_l n_l c_l)) (h0 : J [] W) :
    CallsIn Fence.wide nn Try.prog 58 #[.func (.yield L) #[] #[], .pointer (some ⟨gl, 0, none⟩)] W fun e W' => (∃ v, e = .returned v) ∧ ((∃ xs, xs.map BV.ms = allB l ∧ J xs W') ∨ (∃ pre, (∃ r, pre.map BV.ms ++ r = allB l) ∧ Jx pre W')) := by
  have HL := Lib.hid h_l.len
  have HRC := Lib.hid h_l
  have HW := Lib.hid hW
  have hn3 : n_l ≤ 3 := by rw [← HL.out]; exact hW.len
  have HB := Lib.hid hb
  clear h_l hW hb
  refine callsIn_of_wp Try.func58 rfl trivial ?_ rfl
  simp only [Try.ntmps58, List.size_toArray, List.length_cons, List.length_nil, Nat.reduceAdd, Nat.reduceSub, Array.replicate_succ, Array.replicate_zero, List.push_toArray, List.append_toArray, List.nil_append, List.cons_append]
  gi_wp2
  clear hg
  gi_loopw [9] (fun jv wr => ∃ (i : Nat) (pre : List (BV w kd cn)), i ≤ n_l ∧ jv = .int .i64 (i : Nat) ∧ Hid (J pre wr) ∧ Hid (Below w.heap.size w wr) ∧ Hid (pre.map BV.ms = allB (l.take i))) (fun jv _ => n_l - (intOf jv).toNat)
  case atStart => exact ⟨0, [], Nat.zero_le _, rfl, Lib.hid h0, HB, Lib.hid rfl⟩
  case round =>
    rename World => wr
    obtain ⟨i, pre, hi, rfl, HJ, HK, HM⟩ := hrel
    by_cases hlt : i < n_l
    case neg =>
      obtain rfl : n_l = i := by omega
      gi_wp2
      go_end0
      exact ⟨⟨_, rfl⟩, .inl ⟨pre, by rw [HM.out, List.take_of_length_le (by rw [HL.out]; exact Nat.le_refl _)], HJ.out⟩⟩
    case pos =>
      obtain ⟨x, hx⟩ : ∃ x, l[i]? = some x := ⟨_, List.getElem?_eq_getElem (by rw [HL.out]; exact hlt)⟩
      have HX := Lib.hid hx
      have HOK := Lib.hid (HW.out.ok x (List.mem_of_getElem? hx))
      obtain ⟨bb, oo, rfl, hcc⟩ := HRC.out.addr (by omega)
      obtain ⟨u1, v1, t0, t1, rfl, a_b, n_b, c_b, rfl, h_b⟩ := hcc i x hx
      have HBR := Lib.hid h_b
      have HBL := Lib.hid h_b.len
      have hnb : n_b ≤ 64 := by rw [← h_b.len]; exact HOK.out.2.1
      have t0 := cell_below HK.out t0
      have t1 := cell_below HK.out t1
      have hal := below_al wr (.cells #[.string x.nm, .slice a_b n_b c_b] 79)
      have k1 := (PRow.new 79 wr #[.string x.nm, .slice a_b n_b c_b]).cell 1 _ rfl
      have HJ2 := Lib.hid (hD _ _ (.cells #[.string x.nm, .slice a_b n_b c_b] 79) HJ.out)
      have HK2 := Lib.hid (HK.out.trans (hal.mono HK.out.size))
      clear hcc hx h_b hal HJ HK
      gi_wp2_with (refine wpListIn_store_new rfl 79 _ _ rfl atBat _ _ _ rfl rfl rfl rfl (bat_one _ _ _ _) ?_)
      clear t0 t1 k1
      generalize wr.alloc (.cells #[.string x.nm, .slice a_b n_b c_b] 79) = wq at *
      gi_loopw [16] (fun kv wr => ∃ (k : Nat) (qre : List (BV w kd cn)), k ≤ n_b ∧ kv = .int .i64 (k : Nat) ∧ Hid (J qre wr) ∧ Hid (Below w.heap.size w wr) ∧ Hid (qre.map BV.ms = allB (l.take i) ++ (x.bs.take k).map BQ.ms)) (fun kv _ => n_b - (intOf kv).toNat)
      case atStart => exact ⟨0, pre, Nat.zero_le _, rfl, HJ2, HK2, Lib.hid (by rw [HM.out]; simp)⟩
      clear HJ2 HK2
      case round =>
        rename World => wi
        obtain ⟨k, qre, hk, rfl, HJ, HK, HM2⟩ := hrel
        by_cases hlk : k < n_b
        case neg =>
          obtain rfl : n_b = k := by omega
          have HM3 := Lib.hid (show qre.map BV.ms = allB (l.take (i + 1)) by rw [HM2.out, allB_take HX.out, List.take_of_length_le (l := x.bs) (by rw [HBL.out]; exact Nat.le_refl _)])
          gi_wp2
          go_roundw
          case rel => exact ⟨i + 1, qre, by omega, by go_num, HJ, HK, HM3⟩
          case measure => simp [intOf]; omega
        case pos =>
          obtain ⟨y, hy⟩ : ∃ y, x.bs[k]? = some y := ⟨_, List.getElem?_eq_getElem (by rw [HBL.out]; exact hlk)⟩
          have hfit := HOK.out.2.2 y (List.mem_of_getElem? hy)
          obtain ⟨b2, o2, rfl, hc2⟩ := HBR.out.addr (by omega)
          obtain ⟨u2, v2, s0, s1, rfl, -, a_m, n_m, c_m, rfl, h_m⟩ := hc2 k y hy
          rw [hfit.1] at s0
          have s0 := cell_below HK.out s0
          have s1 := cell_below HK.out s1
          obtain ⟨xv, hxv⟩ : ∃ xv : BV w kd cn, xv = ⟨y.ms, a_m, n_m, c_m, h_m, hfit.2⟩ := ⟨_, rfl⟩
          have e1 : a_m = xv.a := by rw [hxv]
          have e2 : n_m = xv.n := by rw [hxv]
          have e3 : c_m = xv.c := by rw [hxv]
          have HMS := Lib.hid (show xv.ms = y.ms by rw [hxv])
          rw [e1, e2, e3] at s1
          clear hxv
          have HM3 := Lib.hid (show (qre ++ [xv]).map BV.ms = allB (l.take i) ++ (x.bs.take (k + 1)).map BQ.ms by
            obtain ⟨hk2, hk3⟩ := List.getElem?_eq_some_iff.1 hy
            rw [List.map_append, HM2.out, List.take_succ_eq_append_getElem hk2, List.map_append, hk3]
            simp [HMS.out])
          have hlen : qre.length < 1000 := by
            have h1 := congrArg List.length HM2.out
            have h2 := allB_len (l := l.take i) fun z hz => (HW.out.ok z (List.mem_of_mem_take hz)).2.1
            rw [List.length_map, List.length_append, List.length_map, List.length_take] at h1
            rw [List.length_take] at h2
            have h3 := HL.out
            omega
          have hal := below_al wi (.cells #[.int .u8 ((kd : Nat) : Int), .slice xv.a xv.n xv.c] 37)
          have HK3 := Lib.hid (HK.out.trans (hal.mono HK.out.size))
          have hY1 := hY qre xv (wi.alloc (.cells #[.int .u8 ((kd : Nat) : Int), .slice xv.a xv.n xv.c] 37)) (hD _ _ _ HJ.out) hlen
          obtain ⟨fn, tmps, assign, body, hyy, hR⟩ := hY1
          have HRR := Lib.hid hR
          have R := PRow.new 37 wi #[.int .u8 ((kd : Nat) : Int), .slice xv.a xv.n xv.c]
          have k0 := R.cell 0 _ rfl
          have k1 := R.cell 1 _ rfl
          clear hfit hc2 hy h_m e1 e2 e3 hlen hal HJ hR R
          gi_wp2_with (refine wpListIn_store_new rfl 37 _ _ rfl atBal _ _ _ rfl rfl rfl rfl (bal_one _ _ _ _) ?_)
          clear s0 s1 k0 k1 hyy
          refine ⟨fun hd => (by cases hd), HRR.out.mono ?_⟩
          rintro e W3 (⟨rfl, hJ3, hk3⟩ | ⟨rfl, hJ3⟩)
          · have HJ3 := Lib.hid hJ3
            have HK4 := Lib.hid (HK3.out.trans hk3)
            clear hJ3 hk3 HRR
            gi_wp2
            go_roundw
            case rel => exact ⟨k + 1, qre ++ [xv], by omega, by go_num, HJ3, HK4, HM3⟩
            case measure => simp [intOf]; omega
          · have HJ3 := Lib.hid hJ3
            clear hJ3 HRR
            gi_wp2
            refine bodyPost_ret (results_none rfl _ _ _) rfl ?_
            refine ⟨⟨_, rfl⟩, .inr ⟨qre ++ [xv], ?_, HJ3.out⟩⟩
            obtain ⟨r, hr⟩ := allB_split HX.out
            refine ⟨(x.bs.drop (k + 1)).map BQ.ms ++ r, ?_⟩
            rw [HM3.out, ← List.append_assoc, List.append_assoc (allB (l.take i)), ← List.map_append, List.take_append_drop]
            exact hr

end Go.Proofs.Ythpjnbnheagpiaa
