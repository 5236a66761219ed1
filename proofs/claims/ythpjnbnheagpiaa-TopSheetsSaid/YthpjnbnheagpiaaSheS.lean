/- The rows of the program's Read, plain side. No program in sight. Printed by gen_sheu.py. -/
import Derived.Test.YthpjnbnheagpiaaSheJ
import Derived.Test.YthpjnbnheagpiaaSheE
namespace Go.Proofs.Ythpjnbnheagpiaa
open Go.RowKit Go.Suf
set_option linter.unusedVariables false
set_option linter.unusedSimpArgs false
theorem take_snoc {l : List DQ} {j : Nat} (hj : j < l.length) : l.take (j + 1) = l.take j ++ [dth l j] := by
  rw [dth_eq hj, List.take_succ_eq_append_getElem hj]
theorem find_step {l : List DQ} {j : Nat} (hj : j < l.length) (b : Int) : findD (l.take (j + 1)) b = (findD (l.take j) b).or (if (dth l j).bx = b then some (dth l j) else none) := by
  unfold findD
  rw [take_snoc hj, List.find?_append]
  congr 1
  by_cases h : (dth l j).bx = b
  · rw [if_pos h]; simp [List.find?, h]
  · rw [if_neg h]; simp [List.find?, h]
theorem find_take {l : List DQ} {j : Nat} {b : Int} (h : ∀ k, k < j → ¬ (dth l k).bx = b) : findD (l.take j) b = none := by
  unfold findD
  rw [List.find?_eq_none]
  intro d hd
  obtain ⟨k, hk, e⟩ := List.getElem_of_mem hd
  have hk2 : k < j ∧ k < l.length := by rw [List.length_take] at hk; omega
  rw [List.getElem_take] at e
  have := h k hk2.1
  rw [dth_eq hk2.2, e] at this
  simpa using this
theorem find_take_some {l : List DQ} {j k : Nat} {b : Int} (hk : k < j) (hkl : k < l.length) (h : (dth l k).bx = b) : (findD (l.take j) b).isNone = false := by
  cases hf : findD (l.take j) b
  · unfold findD at hf
    rw [List.find?_eq_none] at hf
    have hm : dth l k ∈ l.take j := by
      rw [dth_eq hkl]
      exact List.mem_take_iff_getElem.2 ⟨k, by omega, rfl⟩
    have := hf _ hm
    rw [decide_eq_true h] at this
    exact absurd rfl this
  · rfl
theorem dbtB_ok {p : PQ} {xs : List Nat} {l : List DQ} {j b : Nat} (hj : j < l.length) (hb : (dth l j).bx = (b : Int)) (hx : b < xs.length) : dbtB p xs (l.take j) b = decide (okD p xs l j) := by
  unfold dbtB
  by_cases h : okD p xs l j
  · rw [decide_eq_true h]
    have h1 := h.1.2.2
    rw [hb, Int.toNat_natCast] at h1
    have h2 : findD (l.take j) (b : Int) = none := find_take fun k hk => by have := h.2 k hk; rwa [hb] at this
    rw [h1, h2]
    rfl
  · rw [decide_eq_false h]
    by_cases h1 : doubtB p (nth xs b) = true
    · have h2 : ¬ ∀ k, k < j → ¬ (dth l k).bx = (b : Int) := fun hh => h ⟨⟨by omega, by omega, by rw [hb, Int.toNat_natCast]; exact h1⟩, fun k hk => by rw [hb]; exact hh k hk⟩
      obtain ⟨k, hk, e⟩ : ∃ k, k < j ∧ (dth l k).bx = (b : Int) := Classical.byContradiction fun hh => h2 fun k hk e => hh ⟨k, hk, e⟩
      rw [find_take_some hk (by omega) e, Bool.and_false]
    · rw [Bool.not_eq_true] at h1
      rw [h1, Bool.false_and]
def dL (p : PQ) (xs : List Nat) (l : List DQ) (n : Nat) : List Bool := (List.range n).map (dbtB p xs l)
theorem dL_len (p : PQ) (xs : List Nat) (l : List DQ) (n : Nat) : (dL p xs l n).length = n := by simp [dL]
theorem bth_mark {p : PQ} {xs : List Nat} {l : List DQ} {n i : Nat} (hi : i < n) : bth (markL p xs l n) i = markB p xs l i := by
  unfold markL bth gth
  simp [hi, List.getD_eq_getElem?_getD]
theorem bth_dL {p : PQ} {xs : List Nat} {l : List DQ} {n i : Nat} (hi : i < n) : bth (dL p xs l n) i = dbtB p xs l i := by
  unfold dL bth gth
  simp [hi, List.getD_eq_getElem?_getD]
theorem mark_step {p : PQ} {xs : List Nat} {l : List DQ} {j b : Nat} (n : Nat) (hj : j < l.length) (hb : (dth l j).bx = (b : Int)) (h : okD p xs l j) : markL p xs (l.take (j + 1)) n = (markL p xs (l.take j) n).set b (dth l j).yes := by
  refine List.ext_getElem (by simp [markL]) fun i h1 h2 => ?_
  rw [List.getElem_set]
  simp only [markL, List.getElem_map, List.getElem_range]
  unfold markB
  by_cases e : b = i
  · subst e
    have h1 := h.1.2.2
    rw [hb, Int.toNat_natCast] at h1
    have h2 : findD (l.take j) (b : Int) = none := find_take fun k hk => by have := h.2 k hk; rwa [hb] at this
    rw [find_step hj, if_pos h1, h2, if_pos hb, if_pos rfl]
    rfl
  · have e3 : findD (l.take (j + 1)) (i : Nat) = findD (l.take j) (i : Nat) := by rw [find_step hj, if_neg (by rw [hb]; omega), Option.or_none]
    rw [if_neg e, e3]
theorem dbt_step {p : PQ} {xs : List Nat} {l : List DQ} {j b : Nat} (n : Nat) (hj : j < l.length) (hb : (dth l j).bx = (b : Int)) : dL p xs (l.take (j + 1)) n = (dL p xs (l.take j) n).set b false := by
  refine List.ext_getElem (by simp [dL]) fun i h1 h2 => ?_
  rw [List.getElem_set]
  simp only [dL, List.getElem_map, List.getElem_range]
  unfold dbtB
  rw [find_step hj]
  by_cases e : b = i
  · subst e
    rw [if_pos hb, if_pos rfl]
    cases findD (l.take j) (b : Int) <;> simp
  · rw [if_neg e, if_neg (by rw [hb]; omega), Option.or_none]
/-- The rows while the boxes are looked at: the first i are done. -/
def mkI (p : PQ) (xs : List Nat) (n i : Nat) : List Bool := (List.range n).map fun k => decide (k < i) && decide (p.high ≤ nth xs k)
def dbI (p : PQ) (xs : List Nat) (n i : Nat) : List Bool := (List.range n).map fun k => decide (k < i) && doubtB p (nth xs k)
theorem mkI_len (p : PQ) (xs : List Nat) (n i : Nat) : (mkI p xs n i).length = n := by simp [mkI]
theorem dbI_len (p : PQ) (xs : List Nat) (n i : Nat) : (dbI p xs n i).length = n := by simp [dbI]
theorem mkI_zero (p : PQ) (xs : List Nat) (n : Nat) : mkI p xs n 0 = List.replicate n false := by
  refine List.ext_getElem (by simp [mkI]) fun k h1 h2 => ?_
  simp [mkI]
theorem dbI_zero (p : PQ) (xs : List Nat) (n : Nat) : dbI p xs n 0 = List.replicate n false := by
  refine List.ext_getElem (by simp [dbI]) fun k h1 h2 => ?_
  simp [dbI]
theorem bI_succ (f : Nat → Bool) (n i : Nat) : ((List.range n).map fun k => decide (k < i + 1) && f k) = ((List.range n).map fun k => decide (k < i) && f k).set i (f i) := by
  refine List.ext_getElem (by simp) fun k h1 h2 => ?_
  rw [List.getElem_set]
  simp only [List.getElem_map, List.getElem_range]
  by_cases e : i = k
  · subst e; rw [if_pos rfl]; simp
  · rw [if_neg e]
    by_cases e2 : k < i
    · rw [decide_eq_true e2, decide_eq_true (show k < i + 1 by omega)]
    · rw [decide_eq_false e2, decide_eq_false (show ¬ k < i + 1 by omega)]
theorem mkI_succ {p : PQ} {xs : List Nat} {i : Nat} (n : Nat) {b : Bool} (h : decide (p.high ≤ nth xs i) = b) : mkI p xs n (i + 1) = (mkI p xs n i).set i b := by
  rw [← h]; exact bI_succ (fun k => decide (p.high ≤ nth xs k)) n i
theorem dbI_succ {p : PQ} {xs : List Nat} {i : Nat} (n : Nat) {b : Bool} (h : doubtB p (nth xs i) = b) : dbI p xs n (i + 1) = (dbI p xs n i).set i b := by
  rw [← h]; exact bI_succ (fun k => doubtB p (nth xs k)) n i
theorem mkI_full (p : PQ) (xs : List Nat) (l : List DQ) (n : Nat) : mkI p xs n n = markL p xs (l.take 0) n := by
  refine List.ext_getElem (by simp [mkI, markL]) fun k h1 h2 => ?_
  simp [mkI] at h1
  simp only [mkI, markL, List.getElem_map, List.getElem_range, List.take_zero]
  rw [decide_eq_true h1, Bool.true_and]
  unfold markB
  by_cases h : doubtB p (nth xs k) = true
  · rw [if_pos h]
    unfold doubtB at h
    simp only [Bool.and_eq_true, decide_eq_true_eq] at h
    rw [decide_eq_false (by omega)]
    rfl
  · rw [if_neg h]
theorem dbI_full (p : PQ) (xs : List Nat) (l : List DQ) (n : Nat) : dbI p xs n n = dL p xs (l.take 0) n := by
  refine List.ext_getElem (by simp [dbI, dL]) fun k h1 h2 => ?_
  simp [dbI] at h1
  simp only [dbI, dL, List.getElem_map, List.getElem_range, List.take_zero]
  rw [decide_eq_true h1, Bool.true_and]
  unfold dbtB
  exact (Bool.and_true _).symm

end Go.Proofs.Ythpjnbnheagpiaa
/- Plain laws of reading: the order of the decisions, steadiness, what a reading is, and reading a filled sheet. No program in sight. -/
namespace Go.Proofs.Ythpjnbnheagpiaa
open Go.RowKit Go.Suf
set_option linter.unusedVariables false
set_option linter.unusedSimpArgs false

theorem nodup_rev {α : Type} (l : List α) : l.reverse.Nodup ↔ l.Nodup := by
  unfold List.Nodup
  rw [List.pairwise_reverse]
  exact ⟨fun h => h.imp fun h => Ne.symm h, fun h => h.imp fun h => Ne.symm h⟩
theorem dth_in {l : List DQ} {d : DQ} (h : d ∈ l) : ∃ i, i < l.length ∧ dth l i = d := by
  obtain ⟨i, hi, e⟩ := List.getElem_of_mem h
  exact ⟨i, hi, by rw [dth_eq hi]; exact e⟩
def rngD (p : PQ) (xs : List Nat) (d : DQ) : Prop := 0 ≤ d.bx ∧ d.bx < (xs.length : Int) ∧ doubtB p (nth xs d.bx.toNat) = true
theorem decB_iff (p : PQ) (xs : List Nat) (l : List DQ) : decB p xs l = true ↔ (∀ d ∈ l, rngD p xs d) ∧ (l.map DQ.bx).Nodup := by
  unfold decB
  rw [decide_eq_true_eq]
  constructor
  · intro h
    refine ⟨fun d hd => ?_, ?_⟩
    · obtain ⟨i, hi, rfl⟩ := dth_in hd
      exact (h i hi).1
    · rw [List.Nodup, List.pairwise_iff_getElem]
      intro i j hi hj hij
      have hi2 : i < l.length := by simpa using hi
      have hj2 : j < l.length := by simpa using hj
      have := (h j hj2).2 i hij
      rw [dth_eq hi2, dth_eq hj2] at this
      simpa using this
  · rintro ⟨h1, h2⟩ i hi
    refine ⟨h1 _ (dth_mem hi), fun k hk => ?_⟩
    rw [List.Nodup, List.pairwise_iff_getElem] at h2
    have := h2 k i (by simp; omega) (by simpa using hi) hk
    rw [dth_eq hi, dth_eq (by omega)]
    simpa using this
theorem findD_nodup {l : List DQ} (h : (l.map DQ.bx).Nodup) (b : Int) (d : DQ) : findD l b = some d ↔ d ∈ l ∧ d.bx = b := by
  unfold findD
  constructor
  · intro e
    exact ⟨List.mem_of_find?_eq_some e, by have := List.find?_some e; simpa using this⟩
  · rintro ⟨h1, h2⟩
    induction l with
    | nil => cases h1
    | cons x l ih =>
      simp only [List.map_cons, List.nodup_cons] at h
      rw [List.find?_cons]
      rcases List.mem_cons.1 h1 with rfl | h1
      · rw [decide_eq_true h2]
      · rw [decide_eq_false]
        · exact ih h.2 h1
        · intro e
          exact h.1 (List.mem_map.2 ⟨d, h1, by rw [h2, e]⟩)
theorem findD_rev {l : List DQ} (h : (l.map DQ.bx).Nodup) (b : Int) : findD l.reverse b = findD l b := by
  have h' : (l.reverse.map DQ.bx).Nodup := by rw [List.map_reverse]; exact (nodup_rev _).2 h
  refine Option.ext fun d => ?_
  rw [findD_nodup h, findD_nodup h', List.mem_reverse]
theorem decB_rev (p : PQ) (xs : List Nat) (l : List DQ) : decB p xs l.reverse = decB p xs l := by
  rw [Bool.eq_iff_iff, decB_iff, decB_iff]
  simp only [List.mem_reverse, List.map_reverse, nodup_rev]
theorem readR_congr {nm : ByteArray} {ss : List ByteArray} {seats : Int} {rule : Nat} {p : PQ} {xs ys : List Nat} {l m : List DQ} (h1 : sheetC nm ss seats rule ys = sheetC nm ss seats rule xs) (h2 : ys.length = xs.length) (h3 : m.length = l.length) (h4 : decB p ys m = decB p xs l)
    (h5 : decB p xs l = true → ∀ i, markB p ys m i = markB p xs l i) (h6 : decB p xs l = true → ∀ i, dbtB p ys m i = dbtB p xs l i) : readR nm ss seats rule p ys m = readR nm ss seats rule p xs l := by
  unfold readR
  rw [h1, h2, h3, h4]
  by_cases h : decB p xs l = true
  · have e1 : markL p ys m xs.length = markL p xs l xs.length := by unfold markL; congr 1; exact funext (h5 h)
    have e2 : dbtL p ys m xs.length = dbtL p xs l xs.length := by unfold dbtL; congr 2; exact funext (h6 h)
    rw [e1, e2]
  · rw [Bool.not_eq_true] at h
    simp only [h]
    rfl
/-- The order of the decisions does not matter. -/
theorem readR_rev (nm : ByteArray) (ss : List ByteArray) (seats : Int) (rule : Nat) (p : PQ) (xs : List Nat) (l : List DQ) : readR nm ss seats rule p xs l.reverse = readR nm ss seats rule p xs l := by
  refine readR_congr rfl rfl (by simp) (decB_rev _ _ _) (fun h i => ?_) (fun h i => ?_)
  · unfold markB; rw [findD_rev ((decB_iff _ _ _).1 h).2]
  · unfold dbtB; rw [findD_rev ((decB_iff _ _ _).1 h).2]

/-- A reading that went well. -/
theorem readR_good {nm : ByteArray} {ss : List ByteArray} {seats : Int} {rule : Nat} {p : PQ} {xs : List Nat} {l : List DQ} (h : (readR nm ss seats rule p xs l).2 = 0) : sheetC nm ss seats rule xs = 0 ∧ mayP p = true ∧ l.length ≤ xs.length ∧ decB p xs l = true := by
  unfold readR at h
  by_cases h1 : sheetC nm ss seats rule xs = 0
  · rw [if_pos h1] at h
    by_cases h2 : mayP p = true
    · rw [if_pos h2] at h
      by_cases h3 : xs.length < l.length
      · rw [if_pos h3] at h; cases h
      · rw [if_neg h3] at h
        by_cases h4 : decB p xs l = true
        · exact ⟨h1, h2, by omega, h4⟩
        · rw [if_neg h4] at h; cases h
    · rw [if_neg h2] at h; cases h
  · rw [if_neg h1] at h; exact absurd h h1
theorem readR_bad {nm : ByteArray} {ss : List ByteArray} {seats : Int} {rule : Nat} {p : PQ} {xs : List Nat} {l : List DQ} (h : ¬ (readR nm ss seats rule p xs l).2 = 0) : (readR nm ss seats rule p xs l).1 = zeroR := by
  unfold readR at h ⊢
  by_cases h1 : sheetC nm ss seats rule xs = 0
  · rw [if_pos h1] at h ⊢
    by_cases h2 : mayP p = true
    · rw [if_pos h2] at h ⊢
      by_cases h3 : xs.length < l.length
      · rw [if_pos h3]
      · rw [if_neg h3] at h ⊢
        by_cases h4 : decB p xs l = true
        · rw [if_pos h4] at h; exact absurd rfl h
        · rw [if_neg h4]
    · rw [if_neg h2]
  · rw [if_neg h1]
theorem readR_eq {nm : ByteArray} {ss : List ByteArray} {seats : Int} {rule : Nat} {p : PQ} {xs : List Nat} {l : List DQ} (h : sheetC nm ss seats rule xs = 0 ∧ mayP p = true ∧ l.length ≤ xs.length ∧ decB p xs l = true) :
    readR nm ss seats rule p xs l = (⟨kindN rule, (bodyR (kindN rule) ss.length rule p (markL p xs l xs.length)).1, (bodyR (kindN rule) ss.length rule p (markL p xs l xs.length)).2, dbtL p xs l xs.length⟩, 0) := by
  unfold readR
  rw [if_pos h.1, if_pos h.2.1, if_neg (by have := h.2.2.1; omega), if_pos h.2.2.2]
theorem may_facts {p : PQ} (h : mayP p = true) : 1 ≤ p.low ∧ p.low ≤ p.high ∧ p.high ≤ 100 ∧ 0 ≤ p.skips ∧ p.skips ≤ 10 := by
  unfold mayP at h
  simp only [Bool.and_eq_true, decide_eq_true_eq] at h
  exact ⟨h.1.1.1.1, h.1.1.1.2, h.1.1.2, h.1.2, h.2⟩
theorem nth_set {xs : List Nat} {k : Nat} (v : Nat) (hk : k < xs.length) (i : Nat) : nth (xs.set k v) i = if i = k then v else nth xs i := by
  unfold nth
  by_cases h : i = k
  · subst h; rw [if_pos rfl]; simp [hk]
  · rw [if_neg h]
    simp [List.getD_eq_getElem?_getD, List.getElem?_set, Ne.symm h]
theorem sheet_set {nm : ByteArray} {ss : List ByteArray} {seats : Int} {rule : Nat} {xs : List Nat} {k v : Nat} (h : sheetC nm ss seats rule xs = 0) (hv : v ≤ 100) : sheetC nm ss seats rule (xs.set k v) = 0 := by
  unfold sheetC at h ⊢
  by_cases h1 : checkC nm ss seats rule = 0
  · rw [if_pos h1] at h ⊢
    by_cases h2 : xs.length = boxesN ss rule ∧ (xs.any fun x => decide (100 < x)) = false
    · rw [if_pos]
      refine ⟨by rw [List.length_set]; exact h2.1, ?_⟩
      rw [List.any_eq_false] at h2 ⊢
      intro x hx
      rcases List.mem_or_eq_of_mem_set hx with hx | rfl
      · exact h2.2 x hx
      · simp; omega
    · rw [if_neg h2] at h; cases h
  · rw [if_neg h1] at h; exact absurd h h1
/-- A box that is not doubtful is changed and stays on its side. -/
theorem readR_steady {nm : ByteArray} {ss : List ByteArray} {seats : Int} {rule : Nat} {p : PQ} {xs : List Nat} {l : List DQ} {k v : Nat} (h : (readR nm ss seats rule p xs l).2 = 0) (hk : k < xs.length) (hv : v ≤ 100) (h1 : doubtB p (nth xs k) = false) (h2 : doubtB p v = false) (h3 : decide (p.high ≤ v) = decide (p.high ≤ nth xs k)) :
    readR nm ss seats rule p (xs.set k v) l = readR nm ss seats rule p xs l := by
  have hg := readR_good h
  have hd : ∀ i, doubtB p (nth (xs.set k v) i) = doubtB p (nth xs i) := by
    intro i
    rw [nth_set v hk]
    by_cases e : i = k
    · subst e; rw [if_pos rfl, h1, h2]
    · rw [if_neg e]
  have hh : ∀ i, decide (p.high ≤ nth (xs.set k v) i) = decide (p.high ≤ nth xs i) := by
    intro i
    rw [nth_set v hk]
    by_cases e : i = k
    · subst e; rw [if_pos rfl, h3]
    · rw [if_neg e]
  refine readR_congr (by rw [hg.1]; exact sheet_set hg.1 hv) (by simp) rfl ?_ (fun _ i => ?_) (fun _ i => ?_)
  · rw [Bool.eq_iff_iff, decB_iff, decB_iff]
    unfold rngD
    simp only [hd, List.length_set]
  · unfold markB; rw [hd, hh]
  · unfold dbtB; rw [hd]
theorem filter_one (f g : Nat → Bool) (n b : Nat) (hb : b < n) (hf : f b = true) (hg : g b = false) (h : ∀ i, i ≠ b → f i = g i) : ((List.range n).filter f).length = ((List.range n).filter g).length + 1 := by
  have hle : ∀ n, n ≤ b → ((List.range n).filter f) = ((List.range n).filter g) := by
    intro n hn
    refine List.filter_congr fun i hi => h i ?_
    have := List.mem_range.1 hi
    omega
  induction n with
  | zero => omega
  | succ n ih =>
    rw [List.range_succ, List.filter_append, List.filter_append, List.length_append, List.length_append]
    by_cases e : b = n
    · subst e
      rw [hle b (Nat.le_refl _)]
      simp [hf, hg]
    · have := ih (by omega)
      have e2 : f n = g n := h n (fun x => e x.symm)
      have e3 : [n].filter f = [n].filter g := List.filter_congr fun i hi => by
        rw [List.mem_singleton] at hi
        subst hi
        exact e2
      rw [this, e3]
      omega
theorem find_snoc (l : List DQ) (d : DQ) (b : Int) : findD (l ++ [d]) b = (findD l b).or (if d.bx = b then some d else none) := by
  unfold findD
  rw [List.find?_append]
  congr 1
  by_cases h : d.bx = b
  · rw [if_pos h]; simp [List.find?, h]
  · rw [if_neg h]; simp [List.find?, h]
theorem findD_no {l : List DQ} {b : Int} (h : ∀ d ∈ l, ¬ d.bx = b) : findD l b = none := by
  unfold findD
  rw [List.find?_eq_none]
  intro d hd
  simpa using h d hd
/-- The number of boxes that are still in doubt. -/
def cntD (p : PQ) (xs : List Nat) (l : List DQ) : Nat := ((List.range xs.length).filter (dbtB p xs l)).length
theorem cntD_snoc {p : PQ} {xs : List Nat} {l : List DQ} {b : Nat} {y : Bool} (hb : b < xs.length) (hd : doubtB p (nth xs b) = true) (hn : findD l (b : Nat) = none) : cntD p xs l = cntD p xs (l ++ [⟨(b : Nat), y⟩]) + 1 := by
  refine filter_one _ _ _ b hb ?_ ?_ fun i hi => ?_
  · unfold dbtB; rw [hd, hn]; rfl
  · unfold dbtB; rw [find_snoc, hn, if_pos rfl, Bool.and_eq_false_iff]; exact .inr rfl
  · unfold dbtB; rw [find_snoc, if_neg (by show ¬ ((b : Nat) : Int) = (i : Nat); omega), Option.or_none]
theorem decB_init {p : PQ} {xs : List Nat} {l : List DQ} {d : DQ} (h : decB p xs (l ++ [d]) = true) : decB p xs l = true ∧ rngD p xs d ∧ findD l d.bx = none := by
  rw [decB_iff] at h
  obtain ⟨h1, h2⟩ := h
  rw [List.map_append, List.nodup_append] at h2
  refine ⟨(decB_iff _ _ _).2 ⟨fun d hd => h1 d (List.mem_append_left _ hd), h2.1⟩, h1 d (by simp), ?_⟩
  refine findD_no fun x hx e => ?_
  exact h2.2.2 x.bx (List.mem_map.2 ⟨x, hx, rfl⟩) d.bx (by simp) e
theorem cntD_all {p : PQ} {xs : List Nat} (l : List DQ) : decB p xs l.reverse = true → cntD p xs l.reverse + l.length ≤ xs.length := by
  induction l with
  | nil =>
    intro _
    have := List.length_filter_le (dbtB p xs []) (List.range xs.length)
    simp only [List.length_range] at this
    simpa [cntD] using this
  | cons d l ih =>
    intro h
    rw [List.reverse_cons] at h ⊢
    obtain ⟨h1, h2, h3⟩ := decB_init h
    obtain ⟨b, hb⟩ : ∃ b : Nat, d.bx = (b : Int) := ⟨d.bx.toNat, by have := h2.1; omega⟩
    have e : d = ⟨((b : Nat) : Int), d.yes⟩ := by cases d; simp at hb; rw [hb]
    have h4 : b < xs.length := by have := h2.2.1; omega
    have h5 : doubtB p (nth xs b) = true := by have := h2.2.2; rw [hb] at this; simpa using this
    rw [hb] at h3
    have := cntD_snoc (y := d.yes) h4 h5 h3
    have := ih h1
    rw [e, List.length_cons]
    omega
/-- A doubtful box is decided to be empty. -/
theorem readR_decide {nm : ByteArray} {ss : List ByteArray} {seats : Int} {rule : Nat} {p : PQ} {xs : List Nat} {l : List DQ} {k : Nat} (h : (readR nm ss seats rule p xs l).2 = 0) (hk : k < xs.length) (h1 : doubtB p (nth xs k) = true) (h2 : ∀ d ∈ l, ¬ d.bx = (k : Int)) :
    (readR nm ss seats rule p xs (l ++ [⟨(k : Nat), false⟩])).2 = 0 ∧ (readR nm ss seats rule p xs (l ++ [⟨(k : Nat), false⟩])).1.kd = (readR nm ss seats rule p xs l).1.kd ∧ (readR nm ss seats rule p xs (l ++ [⟨(k : Nat), false⟩])).1.ms = (readR nm ss seats rule p xs l).1.ms
      ∧ (readR nm ss seats rule p xs (l ++ [⟨(k : Nat), false⟩])).1.ov = (readR nm ss seats rule p xs l).1.ov ∧ (readR nm ss seats rule p xs l).1.ds.length = (readR nm ss seats rule p xs (l ++ [⟨(k : Nat), false⟩])).1.ds.length + 1 ∧ l.length + 1 ≤ xs.length := by
  have hg := readR_good h
  have hn : findD l (k : Nat) = none := findD_no h2
  have hc := cntD_snoc (y := false) hk h1 hn
  have ha := cntD_all l.reverse (by rw [List.reverse_reverse]; exact hg.2.2.2)
  rw [List.reverse_reverse, List.length_reverse] at ha
  have hdec : decB p xs (l ++ [⟨(k : Nat), false⟩]) = true := by
    have := (decB_iff _ _ _).1 hg.2.2.2
    refine (decB_iff _ _ _).2 ⟨fun d hd => ?_, ?_⟩
    · rcases List.mem_append.1 hd with hd | hd
      · exact this.1 d hd
      · rw [List.mem_singleton] at hd
        subst hd
        exact ⟨Int.natCast_nonneg _, by show ((k : Nat) : Int) < _; omega, by simpa using h1⟩
    · rw [List.map_append, List.nodup_append]
      refine ⟨this.2, by simp, fun a ha b hb e => ?_⟩
      simp at hb
      obtain ⟨d, hd, e2⟩ := List.mem_map.1 ha
      exact h2 d hd (by rw [e2, e, hb])
  have hm : markL p xs (l ++ [⟨(k : Nat), false⟩]) xs.length = markL p xs l xs.length := by
    unfold markL
    congr 1
    funext i
    unfold markB
    by_cases e : k = i
    · subst e; rw [find_snoc, hn, if_pos rfl]; rfl
    · have e3 : findD (l ++ [⟨(k : Nat), false⟩]) (i : Nat) = findD l (i : Nat) := by rw [find_snoc, if_neg (by show ¬ ((k : Nat) : Int) = (i : Nat); omega), Option.or_none]
      rw [e3]
  rw [readR_eq hg, readR_eq ⟨hg.1, hg.2.1, by simp; omega, hdec⟩, hm]
  refine ⟨rfl, rfl, rfl, rfl, ?_, by omega⟩
  unfold dbtL
  rw [List.length_map, List.length_map]
  exact hc

end Go.Proofs.Ythpjnbnheagpiaa
