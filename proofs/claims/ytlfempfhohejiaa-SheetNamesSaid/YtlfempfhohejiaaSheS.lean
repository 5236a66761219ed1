/- The rows of the program's Read, plain side. No program in sight. Printed by gen_sheu.py. -/
import Derived.Test.YtlfempfhohejiaaSheL
namespace Go.Proofs.Ytlfempfhohejiaa
open Go.RowKit Go.Suf
set_option linter.unusedVariables false
set_option linter.unusedSimpArgs false
theorem take_snoc {l : List DQ} {j : Nat} (hj : j < l.length) : l.take (j + 1) = l.take j ++ [dth l j] := by
  rw [dth_eq hj, List.take_succ_eq_append_getElem hj]
theorem find_step {l : List DQ} {j : Nat} (hj : j < l.length) (b : Int) : findD (l.take (j + 1)) b = (findD (l.take j) b).or (if (dth l j).bx = b then some (dth l j) else none) := by
  unfold findD
  rw [take_snoc hj, List.find?_append]
  congr 1
  by_cases h : (dth l j).bx = b
  · rw [if_pos h]; simp [List.find?, h]
  · rw [if_neg h]; simp [List.find?, h]
theorem find_take {l : List DQ} {j : Nat} {b : Int} (h : ∀ k, k < j → ¬ (dth l k).bx = b) : findD (l.take j) b = none := by
  unfold findD
  rw [List.find?_eq_none]
  intro d hd
  obtain ⟨k, hk, e⟩ := List.getElem_of_mem hd
  have hk2 : k < j ∧ k < l.length := by rw [List.length_take] at hk; omega
  rw [List.getElem_take] at e
  have := h k hk2.1
  rw [dth_eq hk2.2, e] at this
  simpa using this
theorem find_take_some {l : List DQ} {j k : Nat} {b : Int} (hk : k < j) (hkl : k < l.length) (h : (dth l k).bx = b) : (findD (l.take j) b).isNone = false := by
  cases hf : findD (l.take j) b
  · unfold findD at hf
    rw [List.find?_eq_none] at hf
    have hm : dth l k ∈ l.take j := by
      rw [dth_eq hkl]
      exact List.mem_take_iff_getElem.2 ⟨k, by omega, rfl⟩
    have := hf _ hm
    rw [decide_eq_true h] at this
    exact absurd rfl this
  · rfl
theorem dbtB_ok {p : PQ} {xs : List Nat} {l : List DQ} {j b : Nat} (hj : j < l.length) (hb : (dth l j).bx = (b : Int)) (hx : b < xs.length) : dbtB p xs (l.take j) b = decide (okD p xs l j) := by
  unfold dbtB
  by_cases h : okD p xs l j
  · rw [decide_eq_true h]
    have h1 := h.1.2.2
    rw [hb, Int.toNat_natCast] at h1
    have h2 : findD (l.take j) (b : Int) = none := find_take fun k hk => by have := h.2 k hk; rwa [hb] at this
    rw [h1, h2]
    rfl
  · rw [decide_eq_false h]
    by_cases h1 : doubtB p (nth xs b) = true
    · have h2 : ¬ ∀ k, k < j → ¬ (dth l k).bx = (b : Int) := fun hh => h ⟨⟨by omega, by omega, by rw [hb, Int.toNat_natCast]; exact h1⟩, fun k hk => by rw [hb]; exact hh k hk⟩
      obtain ⟨k, hk, e⟩ : ∃ k, k < j ∧ (dth l k).bx = (b : Int) := Classical.byContradiction fun hh => h2 fun k hk e => hh ⟨k, hk, e⟩
      rw [find_take_some hk (by omega) e, Bool.and_false]
    · rw [Bool.not_eq_true] at h1
      rw [h1, Bool.false_and]
def dL (p : PQ) (xs : List Nat) (l : List DQ) (n : Nat) : List Bool := (List.range n).map (dbtB p xs l)
theorem dL_len (p : PQ) (xs : List Nat) (l : List DQ) (n : Nat) : (dL p xs l n).length = n := by simp [dL]
theorem bth_mark {p : PQ} {xs : List Nat} {l : List DQ} {n i : Nat} (hi : i < n) : bth (markL p xs l n) i = markB p xs l i := by
  unfold markL bth gth
  simp [hi, List.getD_eq_getElem?_getD]
theorem bth_dL {p : PQ} {xs : List Nat} {l : List DQ} {n i : Nat} (hi : i < n) : bth (dL p xs l n) i = dbtB p xs l i := by
  unfold dL bth gth
  simp [hi, List.getD_eq_getElem?_getD]
theorem mark_step {p : PQ} {xs : List Nat} {l : List DQ} {j b : Nat} (n : Nat) (hj : j < l.length) (hb : (dth l j).bx = (b : Int)) (h : okD p xs l j) : markL p xs (l.take (j + 1)) n = (markL p xs (l.take j) n).set b (dth l j).yes := by
  refine List.ext_getElem (by simp [markL]) fun i h1 h2 => ?_
  rw [List.getElem_set]
  simp only [markL, List.getElem_map, List.getElem_range]
  unfold markB
  by_cases e : b = i
  · subst e
    have h1 := h.1.2.2
    rw [hb, Int.toNat_natCast] at h1
    have h2 : findD (l.take j) (b : Int) = none := find_take fun k hk => by have := h.2 k hk; rwa [hb] at this
    rw [find_step hj, if_pos h1, h2, if_pos hb, if_pos rfl]
    rfl
  · have e3 : findD (l.take (j + 1)) (i : Nat) = findD (l.take j) (i : Nat) := by rw [find_step hj, if_neg (by rw [hb]; omega), Option.or_none]
    rw [if_neg e, e3]
theorem dbt_step {p : PQ} {xs : List Nat} {l : List DQ} {j b : Nat} (n : Nat) (hj : j < l.length) (hb : (dth l j).bx = (b : Int)) : dL p xs (l.take (j + 1)) n = (dL p xs (l.take j) n).set b false := by
  refine List.ext_getElem (by simp [dL]) fun i h1 h2 => ?_
  rw [List.getElem_set]
  simp only [dL, List.getElem_map, List.getElem_range]
  unfold dbtB
  rw [find_step hj]
  by_cases e : b = i
  · subst e
    rw [if_pos hb, if_pos rfl]
    cases findD (l.take j) (b : Int) <;> simp
  · rw [if_neg e, if_neg (by rw [hb]; omega), Option.or_none]
/-- The rows while the boxes are looked at: the first i are done. -/
def mkI (p : PQ) (xs : List Nat) (n i : Nat) : List Bool := (List.range n).map fun k => decide (k < i) && decide (p.high ≤ nth xs k)
def dbI (p : PQ) (xs : List Nat) (n i : Nat) : List Bool := (List.range n).map fun k => decide (k < i) && doubtB p (nth xs k)
theorem mkI_len (p : PQ) (xs : List Nat) (n i : Nat) : (mkI p xs n i).length = n := by simp [mkI]
theorem dbI_len (p : PQ) (xs : List Nat) (n i : Nat) : (dbI p xs n i).length = n := by simp [dbI]
theorem mkI_zero (p : PQ) (xs : List Nat) (n : Nat) : mkI p xs n 0 = List.replicate n false := by
  refine List.ext_getElem (by simp [mkI]) fun k h1 h2 => ?_
  simp [mkI]
theorem dbI_zero (p : PQ) (xs : List Nat) (n : Nat) : dbI p xs n 0 = List.replicate n false := by
  refine List.ext_getElem (by simp [dbI]) fun k h1 h2 => ?_
  simp [dbI]
theorem bI_succ (f : Nat → Bool) (n i : Nat) : ((List.range n).map fun k => decide (k < i + 1) && f k) = ((List.range n).map fun k => decide (k < i) && f k).set i (f i) := by
  refine List.ext_getElem (by simp) fun k h1 h2 => ?_
  rw [List.getElem_set]
  simp only [List.getElem_map, List.getElem_range]
  by_cases e : i = k
  · subst e; rw [if_pos rfl]; simp
  · rw [if_neg e]
    by_cases e2 : k < i
    · rw [decide_eq_true e2, decide_eq_true (show k < i + 1 by omega)]
    · rw [decide_eq_false e2, decide_eq_false (show ¬ k < i + 1 by omega)]
theorem mkI_succ {p : PQ} {xs : List Nat} {i : Nat} (n : Nat) {b : Bool} (h : decide (p.high ≤ nth xs i) = b) : mkI p xs n (i + 1) = (mkI p xs n i).set i b := by
  rw [← h]; exact bI_succ (fun k => decide (p.high ≤ nth xs k)) n i
theorem dbI_succ {p : PQ} {xs : List Nat} {i : Nat} (n : Nat) {b : Bool} (h : doubtB p (nth xs i) = b) : dbI p xs n (i + 1) = (dbI p xs n i).set i b := by
  rw [← h]; exact bI_succ (fun k => doubtB p (nth xs k)) n i
theorem mkI_full (p : PQ) (xs : List Nat) (l : List DQ) (n : Nat) : mkI p xs n n = markL p xs (l.take 0) n := by
  refine List.ext_getElem (by simp [mkI, markL]) fun k h1 h2 => ?_
  simp [mkI] at h1
  simp only [mkI, markL, List.getElem_map, List.getElem_range, List.take_zero]
  rw [decide_eq_true h1, Bool.true_and]
  unfold markB
  by_cases h : doubtB p (nth xs k) = true
  · rw [if_pos h]
    unfold doubtB at h
    simp only [Bool.and_eq_true, decide_eq_true_eq] at h
    rw [decide_eq_false (by omega)]
    rfl
  · rw [if_neg h]
theorem dbI_full (p : PQ) (xs : List Nat) (l : List DQ) (n : Nat) : dbI p xs n n = dL p xs (l.take 0) n := by
  refine List.ext_getElem (by simp [dbI, dL]) fun k h1 h2 => ?_
  simp [dbI] at h1
  simp only [dbI, dL, List.getElem_map, List.getElem_range, List.take_zero]
  rw [decide_eq_true h1, Bool.true_and]
  unfold dbtB
  exact (Bool.and_true _).symm

end Go.Proofs.Ytlfempfhohejiaa
