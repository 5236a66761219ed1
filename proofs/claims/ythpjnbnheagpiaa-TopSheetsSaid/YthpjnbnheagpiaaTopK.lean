/- A ballot put into a profile. Conditions: counts of at most 1,000, at most 2^40 rows. Printed by gen_topk.py. -/
import Derived.Test.YthpjnbnheagpiaaTopJ
namespace Go.Proofs.Ythpjnbnheagpiaa
open Go.RowKit Go.Suf
set_option linter.unusedVariables false
set_option linter.unusedSimpArgs false

/-- The rows with one ballot more. -/
def addR (rs : List RwQ) (m : List Int) : List RwQ :=
  if hasR rs m then rs.set (posR rs m) ⟨m, (rth rs (posR rs m)).many + 1⟩ else rs.take (posR rs m) ++ [⟨m, 1⟩] ++ rs.drop (posR rs m)
theorem ins_at {α : Type} (l : List α) (i : Nat) (hi : i ≤ l.length) (x : α) (j : Nat) : (l.take i ++ [x] ++ l.drop i)[j]? = if j < i then l[j]? else if j = i then some x else l[j - 1]? := by
  have hl : (l.take i).length = i := by rw [List.length_take]; omega
  rw [List.append_assoc]
  by_cases h1 : j < i
  · rw [if_pos h1, List.getElem?_append_left (by omega), List.getElem?_take_of_lt h1]
  · rw [if_neg h1, List.getElem?_append_right (by omega), hl]
    by_cases h2 : j = i
    · rw [if_pos h2, h2, Nat.sub_self]; rfl
    · rw [if_neg h2, show j - i = (j - 1 - i) + 1 by omega]
      show (l.drop i)[j - 1 - i]? = _
      rw [List.getElem?_drop, show i + (j - 1 - i) = j - 1 by omega]
/-- All below base but the block G lies as it lay. -/
def KeepG (base G : Nat) (w w' : World) : Prop := ∀ k, k < base → k ≠ G → w'.heap[k]? = w.heap[k]?
theorem KeepG.below {base G : Nat} {w w' w2 : World} (h : KeepG base G w w') (hb : Below w'.heap.size w' w2) (hs : base ≤ w'.heap.size) : KeepG base G w w2 := fun k h1 h2 => (hb.block k (by omega)).trans (h k h1 h2)
theorem KeepG.of {base G : Nat} {w w' : World} (hb : Below w.heap.size w w') (hs : base ≤ w.heap.size) : KeepG base G w w' := fun k h1 _ => hb.block k (by omega)
theorem OwP.typed {base n cap : Nat} {w : World} {a : Option Addr} {vs : List PV} (h : OwP base w a n cap vs) : ∀ p, a = some p → base ≤ p.block ∧ ∃ cs, w.heap[p.block]? = some (.cells cs 92 (0, 0)) := by
  rcases h.own.2 with ⟨hv, hn⟩ | ⟨g, cap', cur, hv, hg, hh, hnc, hm, hsz, htake⟩
  · simp at hv
    intro p hp
    rw [hv.1] at hp
    cases hp
  · simp at hv
    intro p hp
    rw [hv.1] at hp
    cases hp
    exact ⟨hg, cur, hh⟩
theorem rowO.keepA {base : Nat} {w w' : World} {x : RwQ} {u v : Value} {a : Option Addr} (h : rowO base w x u v) (ht : ∀ p, a = some p → ∃ cs, w.heap[p.block]? = some (.cells cs 92 (0, 0))) (hk : KeepB a w w') : rowO base w' x u v := by
  obtain ⟨h1, h2, am, n, c, h3, h4⟩ := h
  refine ⟨h1, h2, am, n, c, h3, h4.len, ⟨h4.own.1, ?_⟩, h4.bd⟩
  rcases h4.own.2 with h5 | ⟨b, c, cur, hv, hb, hh, r⟩
  · exact .inl h5
  · refine .inr ⟨b, c, cur, hv, hb, (hk b (Array.getElem?_eq_some_iff.1 hh).1 (fun p e2 e3 => ?_)).trans hh, r⟩
    obtain ⟨cs, e4⟩ := ht p e2
    rw [← e3, hh] at e4
    simp at e4
theorem rowO.setHi {base g i : Nat} {t : TypeId} {w : World} {x : RwQ} {u v : Value} {cs : Array Value} (h : rowO base w x u v) (hg : w.heap[g]? = some (.cells cs t (0, 0))) (hne : t ≠ 3) (v0 : Value) : rowO base (w.setCell ⟨g, i, none⟩ v0) x u v := by
  obtain ⟨h1, h2, a, n, c, h3, h4⟩ := h
  exact ⟨h1, h2, a, n, c, h3, h4.setHi hg hne v0⟩
theorem PRow.keepA {t : TypeId} {wb w w' : World} {G base : Nat} {cs : Array Value} {a : Option Addr} (h : PRow t wb w G cs) (hn : ∀ p, a = some p → ∃ cs, w.heap[p.block]? = some (.cells cs 92 (0, 0))) (hne : t ≠ 92) (hb : Below base w w') (hB : wb.heap.size ≤ base) (hk : KeepB a w w') : PRow t wb w' G cs :=
  ⟨h.below.trans (hb.mono hB), (hk G h.lt (fun p e1 e2 => by
    obtain ⟨c2, e3⟩ := hn p e1
    rw [← e2, h.row] at e3
    simp at e3
    exact hne e3.2)).trans h.row, h.lo, Nat.lt_of_lt_of_le h.lt hb.size⟩
/-- The rows behind the store of a count. -/
theorem put_set {base g n c : Nat} {w : World} {ps : List PV} {rs : List RwQ} {m : List Int} (hQ : OwP base w (some ⟨g, 0, none⟩) n c ps) (hl : rs.length = n)
    (hF : ∀ (i : Nat) x p, rs[i]? = some x → ps[i]? = some p → rowO base w x p.u p.v) (hH : hasR rs m = true) (hm : okI ((rth rs (posR rs m)).many + 1)) :
    Ow2 (rowO base (w.setCell ⟨g, posR rs m * 2 + 1, none⟩ (.int .i64 ((rth rs (posR rs m)).many + 1)))) 92 base (w.setCell ⟨g, posR rs m * 2 + 1, none⟩ (.int .i64 ((rth rs (posR rs m)).many + 1))) (some ⟨g, 0, none⟩) n c (addR rs m) := by
  have hp : posR rs m < rs.length ∧ (rth rs (posR rs m)).ms = m := by simpa [hasR] using hH
  obtain ⟨i, hi⟩ : ∃ i, posR rs m = i := ⟨_, rfl⟩
  rw [hi] at hp hm
  obtain ⟨cs, hg⟩ := (hQ.typed _ rfl).2
  unfold addR
  rw [hH, hi]
  refine p_ow2 (hQ.setV (i := i) (by omega) (x := .int .i64 ((rth rs i).many + 1)) rfl) (by simpa using hl) fun j x p h1 h2 => ?_
  rcases pset_at h2 with ⟨rfl, rfl⟩ | ⟨h3, h4⟩
  · rw [if_pos rfl, List.getElem?_set_self hp.1] at h1
    cases h1
    have h5 := hF j (rth rs j) (pth ps j) (rth_some hp.1) (by simp [pth, hQ.len, ← hl, hp.1])
    obtain ⟨e1, e2, a, n2, c2, e3, h6⟩ := h5
    refine ⟨rfl, hm, a, n2, c2, e3, ?_⟩
    rw [← hp.2]
    exact h6.keepB hg (by decide) (keepB_cell _ _ _ _)
  · rw [if_pos rfl, List.getElem?_set_ne (Ne.symm h3)] at h1
    exact (hF j x p h1 h4).keep hg (keepB_cell _ _ _ _)
/-- The rows with a new row in their midst. -/
theorem put_ins {base n c : Nat} {w w' : World} {a a' : Option Addr} {c0 : Nat} {ps : List PV} {v : PV} {rs : List RwQ} {m : List Int} (hQ : OwP base w a n c0 ps) (hl : rs.length = n)
    (hF : ∀ (i : Nat) x p, rs[i]? = some x → ps[i]? = some p → rowO base w x p.u p.v) (hH : hasR rs m = false) (hle : posR rs m ≤ n) (hv : rowO base w ⟨m, 1⟩ v.u v.v)
    (hO : OwP base w' a' (n + 1) c (ps.take (posR rs m) ++ [v] ++ ps.drop (posR rs m))) (hk : KeepB a w w') :
    Ow2 (rowO base w') 92 base w' a' (n + 1) c (addR rs m) := by
  have ht := fun p e => (hQ.typed p e).2
  unfold addR
  rw [hH]
  refine p_ow2 hO ?_ fun j x p h1 h2 => ?_
  · simp; omega
  · have e1 := ins_at rs (posR rs m) (by omega) ⟨m, 1⟩ j
    have e2 := ins_at ps (posR rs m) (by rw [hQ.len]; exact hle) v j
    have h1 : (rs.take (posR rs m) ++ [⟨m, 1⟩] ++ rs.drop (posR rs m))[j]? = some x := h1
    rw [e1] at h1
    rw [e2] at h2
    by_cases hj : j < posR rs m
    · rw [if_pos hj] at h1 h2
      exact (hF j x p h1 h2).keepA ht hk
    · rw [if_neg hj] at h1 h2
      by_cases hj2 : j = posR rs m
      · rw [if_pos hj2] at h1 h2
        cases h1
        cases h2
        exact hv.keepA ht hk
      · rw [if_neg hj2] at h1 h2
        exact (hF (j - 1) x p h1 h2).keepA ht hk
theorem ow2_setHi {base g i : Nat} {t : TypeId} {w : World} {a : Option Addr} {n c : Nat} {l : List RwQ} {b0 : Nat} {cs : Array Value} (h : Ow2 (rowO b0 w) 92 base w a n c l) (hg : w.heap[g]? = some (.cells cs t (0, 0))) (hn1 : t ≠ 92) (hn2 : t ≠ 3) (v : Value) : Ow2 (rowO b0 (w.setCell ⟨g, i, none⟩ v)) 92 base (w.setCell ⟨g, i, none⟩ v) a n c l := by
  have h1 := h.mono (F' := rowO b0 (w.setCell ⟨g, i, none⟩ v)) fun x u v0 h0 => h0.setHi hg hn2 v
  exact h1.setHi hg hn1 v
/-- What put leaves behind. -/
def RetPut (wb w : World) (base G : Nat) (cn : Int) (kd : Nat) (rs : List RwQ) : Ending → World → Prop := fun e w' =>
  e = .returned (.tuple #[]) ∧ ∃ a c, PRow 51 wb w' G #[.int .i64 cn, .int .u8 ((kd : Nat) : Int), .slice a rs.length c] ∧ Ow2 (rowO base w') 92 base w' a rs.length c rs ∧ KeepG base G w w'
set_option maxRecDepth 100000 in
set_option maxHeartbeats 4000000 in
theorem put_any (w : World) {wb : World} {base G : Nat} (cn : Int) (kd : Nat) (hkd : kd < 256) {a_r : Option Addr} {n_r c_r : Nat} {rs : List RwQ} (P : PRow 51 wb w G #[.int .i64 cn, .int .u8 ((kd : Nat) : Int), .slice a_r n_r c_r]) (hO : Ow2 (rowO base w) 92 base w a_r n_r c_r rs) (hbase : base ≤ w.heap.size) (hwb : wb.heap.size ≤ base) (hn : n_r ≤ 1099511627776) (hR : RiseR rs) (hmany : ∀ r ∈ rs, 0 ≤ r.many ∧ r.many ≤ 1000) {a_m : Option Addr} {n_m c_m : Nat} {m : List Int} (h_m : RdI w a_m n_m c_m m) (hmm : n_m ≤ 1099511627776) : Calls Try.prog 61 #[.pointer (some ⟨G, 0, none⟩), .slice a_m n_m c_m, .int .i64 1] w (RetPut wb w base G cn kd (addR rs m)) := by
  have HL := Lib.hid hO.len
  have hsz := hbase
  have HM := Lib.hid h_m
  have HMA := Lib.hid hmany
  have HR := Lib.hid hR
  obtain ⟨ps, hQ, hF⟩ := ow2_p hO
  have HF := Lib.hid hF
  have HRD := Lib.hid (hO.rd (E := rowE) fun x u v h => h.rd)
  clear hF hO hmany hR h_m
  obtain ⟨i, hi⟩ : ∃ i, posR rs m = i := ⟨_, rfl⟩
  obtain ⟨hs, hhs⟩ : ∃ hs, hasR rs m = hs := ⟨_, rfl⟩
  have HI := Lib.hid hi
  have HH := Lib.hid hhs
  clear hi hhs
  go_enter Try.func61, Try.ntmps61
  have k0 := P.cell 0 _ rfl
  have k1 := P.cell 1 _ rfl
  have k2 := P.cell 2 _ rfl
  go_wp2_with fail
  clear k0 k1 k2
  have c := placeR_any w HRD.out hn HR.out cn kd hkd HM.out
  rw [HI.out, HH.out] at c
  refine c.mono ?_
  rintro e w1 ⟨rfl, hle, hb⟩
  clear c
  have P1 := P.later hb
  have Q1 := hQ.below hb
  have HF1 := Lib.hid (fun i x p h1 h2 => (HF.out i x p h1 h2).below hb)
  have M1 := Lib.hid (HM.out.below hb)
  have HKG := Lib.hid (KeepG.of (base := base) (G := G) hb hsz)
  have hsz1 : base ≤ w1.heap.size := Nat.le_trans hsz hb.size
  clear hb P hQ HF HRD
  cases hs
  case false =>
    have hmn : n_m ≤ 1099511627776 := hmm
    have hk2 : w1.drew.cell? ⟨G, 2, none⟩ = some (.slice a_r n_r c_r) := (P1.later (Below.refl _ _).drew).cell 2 _ rfl
    have hdw := (Below.refl w1.heap.size w1).drew
    go_upto_region 3 with fail
    refine wp_region_any (by kernel_rfl) ?_
    change wpAny _ _ _ _ _ _ _ (World.drew _)
    refine wpAny_take (i := 0) (oi := ?oir2_0) (v := ?vr2_0) ?hir2_0 (by kernel_rfl) (by kernel_rfl) (by kernel_rfl) ?hqr2_0 ?hyr2_0 ?restr2_0
    case hir2_0 => simp only [List.getElem?_toArray, List.getElem?_cons_succ, List.getElem?_cons_zero]; rfl
    case hqr2_0 => exact fun _ _ _ h => h
    case hyr2_0 => (refine Or.inl ⟨by rfl, ?_⟩; intro w; go_simp; all_goals with_reducible rfl)
    try simp only [Act.put, List.setIfInBounds_toArray, List.set_cons_zero, List.set_cons_succ]
    refine wpAny_take (i := 1) (oi := ?oir2_1) (v := ?vr2_1) ?hir2_1 (by kernel_rfl) (by kernel_rfl) (by kernel_rfl) ?hqr2_1 ?hyr2_1 ?restr2_1
    case hir2_1 => simp only [List.getElem?_toArray, List.getElem?_cons_succ, List.getElem?_cons_zero]; rfl
    case hqr2_1 => exact fun _ _ _ h => h
    case hyr2_1 => (refine Or.inl ⟨by rfl, ?_⟩; intro w; go_simp; all_goals with_reducible rfl)
    try simp only [Act.put, List.setIfInBounds_toArray, List.set_cons_zero, List.set_cons_succ]
    refine wpAny_take (i := 2) (oi := ?oir2_2) (v := ?vr2_2) ?hir2_2 (by kernel_rfl) (by kernel_rfl) (by kernel_rfl) ?hqr2_2 ?hyr2_2 ?restr2_2
    case hir2_2 => simp only [List.getElem?_toArray, List.getElem?_cons_succ, List.getElem?_cons_zero]; rfl
    case hqr2_2 => exact fun _ _ _ h => h
    case hyr2_2 => (refine Or.inl ⟨by rfl, ?_⟩; intro w; go_simp; all_goals with_reducible rfl)
    try simp only [Act.put, List.setIfInBounds_toArray, List.set_cons_zero, List.set_cons_succ]
    refine wpAny_take (i := 3) (oi := ?oir2_3) (v := ?vr2_3) ?hir2_3 (by kernel_rfl) (by kernel_rfl) (by kernel_rfl) ?hqr2_3 ?hyr2_3 ?restr2_3
    case hir2_3 => simp only [List.getElem?_toArray, List.getElem?_cons_succ, List.getElem?_cons_zero]; rfl
    case hqr2_3 => exact fun _ _ _ h => h
    case hyr2_3 => (refine Or.inl ⟨by rfl, ?_⟩; intro w; go_simp; all_goals with_reducible rfl)
    try simp only [Act.put, List.setIfInBounds_toArray, List.set_cons_zero, List.set_cons_succ]
    refine wpAny_take (i := 5) (oi := ?oir2_5) (v := ?vr2_5) ?hir2_5 (by kernel_rfl) (by kernel_rfl) (by kernel_rfl) ?hqr2_5 ?hyr2_5 ?restr2_5
    case hir2_5 => simp only [List.getElem?_toArray, List.getElem?_cons_succ, List.getElem?_cons_zero]; rfl
    case hqr2_5 => exact fun _ _ _ h => h
    case hyr2_5 => (refine Or.inl ⟨by rfl, ?_⟩; intro w; go_simp; all_goals with_reducible rfl)
    try simp only [Act.put, List.setIfInBounds_toArray, List.set_cons_zero, List.set_cons_succ]
    refine wpAny_take (i := 6) (oi := ?oir2_6) (v := ?vr2_6) ?hir2_6 (by kernel_rfl) (by kernel_rfl) (by kernel_rfl) ?hqr2_6 ?hyr2_6 ?restr2_6
    case hir2_6 => simp only [List.getElem?_toArray, List.getElem?_cons_succ, List.getElem?_cons_zero]; rfl
    case hqr2_6 => exact fun _ _ _ h => h
    case hyr2_6 => (refine Or.inl ⟨by rfl, ?_⟩; intro w; go_simp; all_goals with_reducible rfl)
    try simp only [Act.put, List.setIfInBounds_toArray, List.set_cons_zero, List.set_cons_succ]
    refine wpAny_take (i := 8) (oi := ?oir2_8) (v := ?vr2_8) ?hir2_8 (by kernel_rfl) (by kernel_rfl) (by kernel_rfl) ?hqr2_8 ?hyr2_8 ?restr2_8
    case hir2_8 => simp only [List.getElem?_toArray, List.getElem?_cons_succ, List.getElem?_cons_zero]; rfl
    case hqr2_8 => exact fun _ _ _ h => h
    case hyr2_8 => (refine Or.inl ⟨by rfl, ?_⟩; intro w; go_simp; all_goals with_reducible rfl)
    try simp only [Act.put, List.setIfInBounds_toArray, List.set_cons_zero, List.set_cons_succ]
    have P2 := P1.later hdw
    have Q2 := Q1.below hdw
    have HF2 := Lib.hid (fun i x p h1 h2 => (HF1.out i x p h1 h2).below hdw)
    have M2 := Lib.hid (M1.out.below hdw)
    have hs2 : base ≤ w1.drew.heap.size := Nat.le_trans hsz1 hdw.size
    have HK2 := Lib.hid (HKG.out.below hdw hsz1)
    clear hk2 hdw P1 Q1 HF1 M1 HKG
    generalize w1.drew = w2 at *
    have k2 := P2.cell 2 _ rfl
    refine wpAny_ready (rs := [4, 7]) (by kernel_rfl) (by simp) ?_
    refine (AllReady.cons (o := ?ob19_4) ?hob19_4 (fun K hK => ?kb19_4) (AllReady.cons (o := ?ob19_7) ?hob19_7 (fun K hK => ?kb19_7) AllReady.nil))
    case hob19_4 => simp only [List.getElem?_toArray, List.getElem?_cons_succ, List.getElem?_cons_zero]; rfl
    case hob19_7 => simp only [List.getElem?_toArray, List.getElem?_cons_succ, List.getElem?_cons_zero]; rfl
    case kb19_4 =>
      go_simp
      refine hK _ _ ?_
      clear hK K
      try simp only [Act.put, List.setIfInBounds_toArray, List.set_cons_zero, List.set_cons_succ]
      refine wpAny_ready (rs := [7]) (by kernel_rfl) (by simp) ?_
      refine (AllReady.cons (o := ?ob8_7) ?hob8_7 (fun K hK => ?kb8_7) AllReady.nil)
      case hob8_7 => simp only [List.getElem?_toArray, List.getElem?_cons_succ, List.getElem?_cons_zero]; rfl
      case kb8_7 =>
        go_simp
        refine (cloneI_any w2 (M2.out) hmn).mono ?_
        rintro e w5 ⟨am, cm, rfl, hc, hb⟩
        have P5 := P2.later hb
        have Q5 := Q2.below hb
        have HF5 := Lib.hid (fun i x p h1 h2 => (HF2.out i x p h1 h2).below hb)
        have hs5 : base ≤ w5.heap.size := Nat.le_trans hs2 hb.size
        have HK5 := Lib.hid (HK2.out.below hb hs2)
        have HC := Lib.hid (hc.base_le hs2)
        have k5 := P5.cell 2 _ rfl
        clear hb hc P2 Q2 HF2 HK2 k2
        go_wp2_with fail
        try simp only [Act.put, List.setIfInBounds_toArray, List.set_cons_zero, List.set_cons_succ]
        refine wpAny_take (i := 9) (oi := ?oir5_9) (v := ?vr5_9) ?hir5_9 (by kernel_rfl) (by kernel_rfl) (by kernel_rfl) ?hqr5_9 ?hyr5_9 ?restr5_9
        case hir5_9 => simp only [List.getElem?_toArray, List.getElem?_cons_succ, List.getElem?_cons_zero]; rfl
        case hqr5_9 => exact fun _ _ _ h => h
        case hyr5_9 => (refine Or.inl ⟨by rfl, ?_⟩; intro w; go_simp; all_goals with_reducible rfl)
        try simp only [Act.put, List.setIfInBounds_toArray, List.set_cons_zero, List.set_cons_succ]
        refine wpAny_ready (rs := [10]) (by kernel_rfl) (by simp) ?_
        refine (AllReady.cons (o := ?ob7_10) ?hob7_10 (fun K hK => ?kb7_10) AllReady.nil)
        case hob7_10 => simp only [List.getElem?_toArray, List.getElem?_cons_succ, List.getElem?_cons_zero]; rfl
        case kb7_10 =>
          go_simp
          refine hK _ _ ?_
          clear hK K
          try simp only [Act.put, List.setIfInBounds_toArray, List.set_cons_zero, List.set_cons_succ]
          have hal := below_al w5 (.cells #[.slice am n_m cm, .int .i64 1] 92)
          have P6 := P5.later hal
          have Q6 := Q5.below hal
          have HF6 := Lib.hid (fun i x p h1 h2 => (HF5.out i x p h1 h2).below hal)
          have hs6 : base ≤ (w5.alloc (.cells #[.slice am n_m cm, .int .i64 1] 92)).heap.size := Nat.le_trans hs5 hal.size
          have HK6 := Lib.hid (HK5.out.below hal hs5)
          have HV := Lib.hid (show rowO base (w5.alloc (.cells #[.slice am n_m cm, .int .i64 1] 92)) ⟨m, 1⟩ (.slice am n_m cm) (.int .i64 1) from ⟨rfl, (show okI 1 from by unfold okI; decide), am, n_m, cm, rfl, HC.out.below hal⟩)
          have HGV := Lib.hid (show ∀ p, a_r = some p → w5.heap.size ≠ p.block from fun p e => by
            obtain ⟨cs, h⟩ := (Q5.typed p e).2
            have := (Array.getElem?_eq_some_iff.1 h).1
            omega)
          have HR6 := Lib.hid (show (w5.alloc (.cells #[.slice am n_m cm, .int .i64 1] 92)).heap[w5.heap.size]? = some (.cells (pcl ⟨.slice am n_m cm, .int .i64 1, rfl, rfl⟩).toArray 92 (0, 0)) from heap_alloc_new w5 _)
          have k6 := P6.cell 2 _ rfl
          clear hal P5 Q5 HF5 HK5 HC k5
          obtain ⟨gv, hgv⟩ : ∃ gv, w5.heap.size = gv := ⟨_, rfl⟩
          rw [hgv] at HGV HR6 ⊢
          clear hgv
          generalize w5.alloc (.cells #[.slice am n_m cm, .int .i64 1] 92) = w6 at *
          refine wpAny_ready (rs := [11]) (by kernel_rfl) (by simp) ?_
          refine (AllReady.cons (o := ?ob6_11) ?hob6_11 (fun K hK => ?kb6_11) AllReady.nil)
          case hob6_11 => simp only [List.getElem?_toArray, List.getElem?_cons_succ, List.getElem?_cons_zero]; rfl
          case kb6_11 =>
            go_simp
            have c := InsertP_any w6 base Q6 hn hle hs6 (gv := gv) (v := ⟨.slice am n_m cm, .int .i64 1, rfl, rfl⟩) trivial HGV.out HR6.out
            refine c.mono ?_
            rintro e w7 ⟨a7, c7, rfl, hO7, hb7, hk7⟩
            clear c
            have P7 := P6.keepA (fun p e => (Q6.typed p e).2) (by decide) hb7 hwb hk7
            have hlen : (addR rs m).length = n_r + 1 := by
              unfold addR
              rw [HH.out, HI.out]
              have := HL.out
              simp
              omega
            have HO7 := Lib.hid (put_ins Q6 HL.out HF6.out HH.out (by rw [HI.out]; exact hle) HV.out (by rw [HI.out]; exact hO7) hk7)
            have HK7 := Lib.hid (show KeepG base G w w7 from fun k h1 h2 => (hk7 k (by omega) (fun p e => by have := (Q6.typed p e).1; omega)).trans (HK6.out k h1 h2))
            clear hO7 hb7 hk7 P6 Q6 HF6 HK6 HGV HR6 HV
            go_wp2_with fail
            try simp only [Act.put, List.setIfInBounds_toArray, List.set_cons_zero, List.set_cons_succ]
            refine wpAny_take (i := 12) (oi := ?oir3_12) (v := ?vr3_12) ?hir3_12 (by kernel_rfl) (by kernel_rfl) (by kernel_rfl) ?hqr3_12 ?hyr3_12 ?restr3_12
            case hir3_12 => simp only [List.getElem?_toArray, List.getElem?_cons_succ, List.getElem?_cons_zero]; rfl
            case hqr3_12 => exact fun _ _ _ h => h
            case hyr3_12 => (refine Or.inl ⟨by rfl, ?_⟩; intro w; go_simp; all_goals with_reducible rfl)
            try simp only [Act.put, List.setIfInBounds_toArray, List.set_cons_zero, List.set_cons_succ]
            refine wpAny_take (i := 13) (oi := ?oir3_13) (v := ?vr3_13) ?hir3_13 (by kernel_rfl) (by kernel_rfl) (by kernel_rfl) ?hqr3_13 ?hyr3_13 ?restr3_13
            case hir3_13 => simp only [List.getElem?_toArray, List.getElem?_cons_succ, List.getElem?_cons_zero]; rfl
            case hqr3_13 => exact fun _ _ _ h => h
            case hyr3_13 => (refine Or.inl ⟨by rfl, ?_⟩; intro w; go_simp; all_goals with_reducible rfl)
            try simp only [Act.put, List.setIfInBounds_toArray, List.set_cons_zero, List.set_cons_succ]
            refine wpAny_ready (rs := [14]) (by kernel_rfl) (by simp) ?_
            refine (AllReady.cons (o := ?ob4_14) ?hob4_14 (fun K hK => ?kb4_14) AllReady.nil)
            case hob4_14 => simp only [List.getElem?_toArray, List.getElem?_cons_succ, List.getElem?_cons_zero]; rfl
            case kb4_14 =>
              go_simp
              have k7 := P7.cell 2 _ rfl
              have f7 := P7.free 2
              go_simp
              refine hK _ _ ?_
              clear hK K
              try simp only [Act.put, List.setIfInBounds_toArray, List.set_cons_zero, List.set_cons_succ]
              refine wpAny_done (by kernel_rfl) ?_ _
              go_wp2_with fail
              refine bodyPost_end (results_none rfl _ _ _) rfl ?_
              refine ⟨rfl, a7, c7, ?_, ?_, ?_⟩
              · rw [hlen]; exact P7.set 2 _
              · rw [hlen]; exact ow2_setHi HO7.out P7.row (by decide) (by decide) _
              · exact fun k h1 h2 => (heap_setCell_other w7 ⟨G, 2, none⟩ k _ h2).trans (HK7.out k h1 h2)
    case kb19_7 =>
      go_simp
      refine (cloneI_any w2 (M2.out) hmn).mono ?_
      rintro e w5 ⟨am, cm, rfl, hc, hb⟩
      have P5 := P2.later hb
      have Q5 := Q2.below hb
      have HF5 := Lib.hid (fun i x p h1 h2 => (HF2.out i x p h1 h2).below hb)
      have hs5 : base ≤ w5.heap.size := Nat.le_trans hs2 hb.size
      have HK5 := Lib.hid (HK2.out.below hb hs2)
      have HC := Lib.hid (hc.base_le hs2)
      have k5 := P5.cell 2 _ rfl
      clear hb hc P2 Q2 HF2 HK2 k2
      go_wp2_with fail
      try simp only [Act.put, List.setIfInBounds_toArray, List.set_cons_zero, List.set_cons_succ]
      refine wpAny_take (i := 9) (oi := ?oir17_9) (v := ?vr17_9) ?hir17_9 (by kernel_rfl) (by kernel_rfl) (by kernel_rfl) ?hqr17_9 ?hyr17_9 ?restr17_9
      case hir17_9 => simp only [List.getElem?_toArray, List.getElem?_cons_succ, List.getElem?_cons_zero]; rfl
      case hqr17_9 => exact fun _ _ _ h => h
      case hyr17_9 => (refine Or.inl ⟨by rfl, ?_⟩; intro w; go_simp; all_goals with_reducible rfl)
      try simp only [Act.put, List.setIfInBounds_toArray, List.set_cons_zero, List.set_cons_succ]
      refine wpAny_ready (rs := [4, 10]) (by kernel_rfl) (by simp) ?_
      refine (AllReady.cons (o := ?ob18_4) ?hob18_4 (fun K hK => ?kb18_4) (AllReady.cons (o := ?ob18_10) ?hob18_10 (fun K hK => ?kb18_10) AllReady.nil))
      case hob18_4 => simp only [List.getElem?_toArray, List.getElem?_cons_succ, List.getElem?_cons_zero]; rfl
      case hob18_10 => simp only [List.getElem?_toArray, List.getElem?_cons_succ, List.getElem?_cons_zero]; rfl
      case kb18_4 =>
        go_simp
        refine hK _ _ ?_
        clear hK K
        try simp only [Act.put, List.setIfInBounds_toArray, List.set_cons_zero, List.set_cons_succ]
        refine wpAny_ready (rs := [10]) (by kernel_rfl) (by simp) ?_
        refine (AllReady.cons (o := ?ob14_10) ?hob14_10 (fun K hK => ?kb14_10) AllReady.nil)
        case hob14_10 => simp only [List.getElem?_toArray, List.getElem?_cons_succ, List.getElem?_cons_zero]; rfl
        case kb14_10 =>
          go_simp
          refine hK _ _ ?_
          clear hK K
          try simp only [Act.put, List.setIfInBounds_toArray, List.set_cons_zero, List.set_cons_succ]
          have hal := below_al w5 (.cells #[.slice am n_m cm, .int .i64 1] 92)
          have P6 := P5.later hal
          have Q6 := Q5.below hal
          have HF6 := Lib.hid (fun i x p h1 h2 => (HF5.out i x p h1 h2).below hal)
          have hs6 : base ≤ (w5.alloc (.cells #[.slice am n_m cm, .int .i64 1] 92)).heap.size := Nat.le_trans hs5 hal.size
          have HK6 := Lib.hid (HK5.out.below hal hs5)
          have HV := Lib.hid (show rowO base (w5.alloc (.cells #[.slice am n_m cm, .int .i64 1] 92)) ⟨m, 1⟩ (.slice am n_m cm) (.int .i64 1) from ⟨rfl, (show okI 1 from by unfold okI; decide), am, n_m, cm, rfl, HC.out.below hal⟩)
          have HGV := Lib.hid (show ∀ p, a_r = some p → w5.heap.size ≠ p.block from fun p e => by
            obtain ⟨cs, h⟩ := (Q5.typed p e).2
            have := (Array.getElem?_eq_some_iff.1 h).1
            omega)
          have HR6 := Lib.hid (show (w5.alloc (.cells #[.slice am n_m cm, .int .i64 1] 92)).heap[w5.heap.size]? = some (.cells (pcl ⟨.slice am n_m cm, .int .i64 1, rfl, rfl⟩).toArray 92 (0, 0)) from heap_alloc_new w5 _)
          have k6 := P6.cell 2 _ rfl
          clear hal P5 Q5 HF5 HK5 HC k5
          obtain ⟨gv, hgv⟩ : ∃ gv, w5.heap.size = gv := ⟨_, rfl⟩
          rw [hgv] at HGV HR6 ⊢
          clear hgv
          generalize w5.alloc (.cells #[.slice am n_m cm, .int .i64 1] 92) = w6 at *
          refine wpAny_ready (rs := [11]) (by kernel_rfl) (by simp) ?_
          refine (AllReady.cons (o := ?ob13_11) ?hob13_11 (fun K hK => ?kb13_11) AllReady.nil)
          case hob13_11 => simp only [List.getElem?_toArray, List.getElem?_cons_succ, List.getElem?_cons_zero]; rfl
          case kb13_11 =>
            go_simp
            have c := InsertP_any w6 base Q6 hn hle hs6 (gv := gv) (v := ⟨.slice am n_m cm, .int .i64 1, rfl, rfl⟩) trivial HGV.out HR6.out
            refine c.mono ?_
            rintro e w7 ⟨a7, c7, rfl, hO7, hb7, hk7⟩
            clear c
            have P7 := P6.keepA (fun p e => (Q6.typed p e).2) (by decide) hb7 hwb hk7
            have hlen : (addR rs m).length = n_r + 1 := by
              unfold addR
              rw [HH.out, HI.out]
              have := HL.out
              simp
              omega
            have HO7 := Lib.hid (put_ins Q6 HL.out HF6.out HH.out (by rw [HI.out]; exact hle) HV.out (by rw [HI.out]; exact hO7) hk7)
            have HK7 := Lib.hid (show KeepG base G w w7 from fun k h1 h2 => (hk7 k (by omega) (fun p e => by have := (Q6.typed p e).1; omega)).trans (HK6.out k h1 h2))
            clear hO7 hb7 hk7 P6 Q6 HF6 HK6 HGV HR6 HV
            go_wp2_with fail
            try simp only [Act.put, List.setIfInBounds_toArray, List.set_cons_zero, List.set_cons_succ]
            refine wpAny_take (i := 12) (oi := ?oir9_12) (v := ?vr9_12) ?hir9_12 (by kernel_rfl) (by kernel_rfl) (by kernel_rfl) ?hqr9_12 ?hyr9_12 ?restr9_12
            case hir9_12 => simp only [List.getElem?_toArray, List.getElem?_cons_succ, List.getElem?_cons_zero]; rfl
            case hqr9_12 => exact fun _ _ _ h => h
            case hyr9_12 => (refine Or.inl ⟨by rfl, ?_⟩; intro w; go_simp; all_goals with_reducible rfl)
            try simp only [Act.put, List.setIfInBounds_toArray, List.set_cons_zero, List.set_cons_succ]
            refine wpAny_take (i := 13) (oi := ?oir9_13) (v := ?vr9_13) ?hir9_13 (by kernel_rfl) (by kernel_rfl) (by kernel_rfl) ?hqr9_13 ?hyr9_13 ?restr9_13
            case hir9_13 => simp only [List.getElem?_toArray, List.getElem?_cons_succ, List.getElem?_cons_zero]; rfl
            case hqr9_13 => exact fun _ _ _ h => h
            case hyr9_13 => (refine Or.inl ⟨by rfl, ?_⟩; intro w; go_simp; all_goals with_reducible rfl)
            try simp only [Act.put, List.setIfInBounds_toArray, List.set_cons_zero, List.set_cons_succ]
            refine wpAny_ready (rs := [14]) (by kernel_rfl) (by simp) ?_
            refine (AllReady.cons (o := ?ob10_14) ?hob10_14 (fun K hK => ?kb10_14) AllReady.nil)
            case hob10_14 => simp only [List.getElem?_toArray, List.getElem?_cons_succ, List.getElem?_cons_zero]; rfl
            case kb10_14 =>
              go_simp
              have k7 := P7.cell 2 _ rfl
              have f7 := P7.free 2
              go_simp
              refine hK _ _ ?_
              clear hK K
              try simp only [Act.put, List.setIfInBounds_toArray, List.set_cons_zero, List.set_cons_succ]
              refine wpAny_done (by kernel_rfl) ?_ _
              go_wp2_with fail
              refine bodyPost_end (results_none rfl _ _ _) rfl ?_
              refine ⟨rfl, a7, c7, ?_, ?_, ?_⟩
              · rw [hlen]; exact P7.set 2 _
              · rw [hlen]; exact ow2_setHi HO7.out P7.row (by decide) (by decide) _
              · exact fun k h1 h2 => (heap_setCell_other w7 ⟨G, 2, none⟩ k _ h2).trans (HK7.out k h1 h2)
      case kb18_10 =>
        go_simp
        refine hK _ _ ?_
        clear hK K
        try simp only [Act.put, List.setIfInBounds_toArray, List.set_cons_zero, List.set_cons_succ]
        have hal := below_al w5 (.cells #[.slice am n_m cm, .int .i64 1] 92)
        have P6 := P5.later hal
        have Q6 := Q5.below hal
        have HF6 := Lib.hid (fun i x p h1 h2 => (HF5.out i x p h1 h2).below hal)
        have hs6 : base ≤ (w5.alloc (.cells #[.slice am n_m cm, .int .i64 1] 92)).heap.size := Nat.le_trans hs5 hal.size
        have HK6 := Lib.hid (HK5.out.below hal hs5)
        have HV := Lib.hid (show rowO base (w5.alloc (.cells #[.slice am n_m cm, .int .i64 1] 92)) ⟨m, 1⟩ (.slice am n_m cm) (.int .i64 1) from ⟨rfl, (show okI 1 from by unfold okI; decide), am, n_m, cm, rfl, HC.out.below hal⟩)
        have HGV := Lib.hid (show ∀ p, a_r = some p → w5.heap.size ≠ p.block from fun p e => by
          obtain ⟨cs, h⟩ := (Q5.typed p e).2
          have := (Array.getElem?_eq_some_iff.1 h).1
          omega)
        have HR6 := Lib.hid (show (w5.alloc (.cells #[.slice am n_m cm, .int .i64 1] 92)).heap[w5.heap.size]? = some (.cells (pcl ⟨.slice am n_m cm, .int .i64 1, rfl, rfl⟩).toArray 92 (0, 0)) from heap_alloc_new w5 _)
        have k6 := P6.cell 2 _ rfl
        clear hal P5 Q5 HF5 HK5 HC k5
        obtain ⟨gv, hgv⟩ : ∃ gv, w5.heap.size = gv := ⟨_, rfl⟩
        rw [hgv] at HGV HR6 ⊢
        clear hgv
        generalize w5.alloc (.cells #[.slice am n_m cm, .int .i64 1] 92) = w6 at *
        refine wpAny_ready (rs := [4]) (by kernel_rfl) (by simp) ?_
        refine (AllReady.cons (o := ?ob16_4) ?hob16_4 (fun K hK => ?kb16_4) AllReady.nil)
        case hob16_4 => simp only [List.getElem?_toArray, List.getElem?_cons_succ, List.getElem?_cons_zero]; rfl
        case kb16_4 =>
          go_simp
          refine hK _ _ ?_
          clear hK K
          try simp only [Act.put, List.setIfInBounds_toArray, List.set_cons_zero, List.set_cons_succ]
          refine wpAny_ready (rs := [11]) (by kernel_rfl) (by simp) ?_
          refine (AllReady.cons (o := ?ob15_11) ?hob15_11 (fun K hK => ?kb15_11) AllReady.nil)
          case hob15_11 => simp only [List.getElem?_toArray, List.getElem?_cons_succ, List.getElem?_cons_zero]; rfl
          case kb15_11 =>
            go_simp
            have c := InsertP_any w6 base Q6 hn hle hs6 (gv := gv) (v := ⟨.slice am n_m cm, .int .i64 1, rfl, rfl⟩) trivial HGV.out HR6.out
            refine c.mono ?_
            rintro e w7 ⟨a7, c7, rfl, hO7, hb7, hk7⟩
            clear c
            have P7 := P6.keepA (fun p e => (Q6.typed p e).2) (by decide) hb7 hwb hk7
            have hlen : (addR rs m).length = n_r + 1 := by
              unfold addR
              rw [HH.out, HI.out]
              have := HL.out
              simp
              omega
            have HO7 := Lib.hid (put_ins Q6 HL.out HF6.out HH.out (by rw [HI.out]; exact hle) HV.out (by rw [HI.out]; exact hO7) hk7)
            have HK7 := Lib.hid (show KeepG base G w w7 from fun k h1 h2 => (hk7 k (by omega) (fun p e => by have := (Q6.typed p e).1; omega)).trans (HK6.out k h1 h2))
            clear hO7 hb7 hk7 P6 Q6 HF6 HK6 HGV HR6 HV
            go_wp2_with fail
            try simp only [Act.put, List.setIfInBounds_toArray, List.set_cons_zero, List.set_cons_succ]
            refine wpAny_take (i := 12) (oi := ?oir11_12) (v := ?vr11_12) ?hir11_12 (by kernel_rfl) (by kernel_rfl) (by kernel_rfl) ?hqr11_12 ?hyr11_12 ?restr11_12
            case hir11_12 => simp only [List.getElem?_toArray, List.getElem?_cons_succ, List.getElem?_cons_zero]; rfl
            case hqr11_12 => exact fun _ _ _ h => h
            case hyr11_12 => (refine Or.inl ⟨by rfl, ?_⟩; intro w; go_simp; all_goals with_reducible rfl)
            try simp only [Act.put, List.setIfInBounds_toArray, List.set_cons_zero, List.set_cons_succ]
            refine wpAny_take (i := 13) (oi := ?oir11_13) (v := ?vr11_13) ?hir11_13 (by kernel_rfl) (by kernel_rfl) (by kernel_rfl) ?hqr11_13 ?hyr11_13 ?restr11_13
            case hir11_13 => simp only [List.getElem?_toArray, List.getElem?_cons_succ, List.getElem?_cons_zero]; rfl
            case hqr11_13 => exact fun _ _ _ h => h
            case hyr11_13 => (refine Or.inl ⟨by rfl, ?_⟩; intro w; go_simp; all_goals with_reducible rfl)
            try simp only [Act.put, List.setIfInBounds_toArray, List.set_cons_zero, List.set_cons_succ]
            refine wpAny_ready (rs := [14]) (by kernel_rfl) (by simp) ?_
            refine (AllReady.cons (o := ?ob12_14) ?hob12_14 (fun K hK => ?kb12_14) AllReady.nil)
            case hob12_14 => simp only [List.getElem?_toArray, List.getElem?_cons_succ, List.getElem?_cons_zero]; rfl
            case kb12_14 =>
              go_simp
              have k7 := P7.cell 2 _ rfl
              have f7 := P7.free 2
              go_simp
              refine hK _ _ ?_
              clear hK K
              try simp only [Act.put, List.setIfInBounds_toArray, List.set_cons_zero, List.set_cons_succ]
              refine wpAny_done (by kernel_rfl) ?_ _
              go_wp2_with fail
              refine bodyPost_end (results_none rfl _ _ _) rfl ?_
              refine ⟨rfl, a7, c7, ?_, ?_, ?_⟩
              · rw [hlen]; exact P7.set 2 _
              · rw [hlen]; exact ow2_setHi HO7.out P7.row (by decide) (by decide) _
              · exact fun k h1 h2 => (heap_setCell_other w7 ⟨G, 2, none⟩ k _ h2).trans (HK7.out k h1 h2)
  case true =>
    have hp : i < rs.length ∧ (rth rs i).ms = m := by have h := HH.out; rw [hasR, HI.out] at h; simpa using h
    have hlt : i < n_r := by rw [← HL.out]; exact hp.1
    obtain ⟨g, cur, rfl, hgb, hg, -, -, -, -⟩ := Q1.row (by omega)
    obtain ⟨b, off, e, t0, t1⟩ := Q1.rd.cell i hlt
    simp only [Option.some.injEq, Addr.mk.injEq, and_true] at e
    obtain ⟨rfl, rfl⟩ := e
    obtain ⟨e1, e2, am, nm, cm, e3, hmm⟩ := HF1.out i (rth rs i) (pth ps i) (rth_some hp.1) (by simp [pth, Q1.len, hlt])
    rw [Nat.zero_add, e1] at t1
    have hma := HMA.out (rth rs i) (List.mem_of_getElem? (rth_some hp.1))
    have f1 := Q1.free (i * 2 + 1)
    have HX := Lib.hid (put_set Q1 HL.out HF1.out HH.out (by rw [HI.out]; unfold okI; omega))
    rw [HI.out] at HX
    obtain ⟨x, hx⟩ : ∃ x, (rth rs i).many = x := ⟨_, rfl⟩
    rw [hx] at t1 hma HX
    have hne : G ≠ g := by
      rintro h0
      have h1 := P1.row
      rw [h0, hg] at h1
      simp at h1
    have HNE := Lib.hid hne
    have HHG := Lib.hid hg
    have HX2 := Lib.hid hx
    have k2 := P1.cell 2 _ rfl
    clear hx hp e1 e2 e3 hmm t0 hne hg HF1
    have hx1 := hma.1
    have hx2 := hma.2
    clear hma
    go_wp2_with fail
    have hlen : (addR rs m).length = n_r := by
      unfold addR
      rw [HH.out]
      simpa using HL.out
    have P2 := P1.other (p := ⟨g, i * 2 + 1, none⟩) HNE.out (Nat.le_trans hwb hgb) (.int .i64 (x + 1))
    refine bodyPost_ret (results_none rfl _ _ _) rfl ?_
    refine ⟨rfl, some ⟨g, 0, none⟩, c_r, ?_, ?_, ?_⟩
    · rw [hlen]; exact P2
    · rw [hlen]; exact HX.out
    · exact fun k h1 h2 => (heap_setCell_other w1 ⟨g, i * 2 + 1, none⟩ k _ (show k ≠ g by omega)).trans (HKG.out k h1 h2)

end Go.Proofs.Ythpjnbnheagpiaa
