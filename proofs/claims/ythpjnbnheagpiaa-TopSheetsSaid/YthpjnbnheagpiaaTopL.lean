/- Plain laws about the rows of a profile: what a ballot more does; rows that count the same are the same. No condition. -/
import Derived.Test.YthpjnbnheagpiaaTopK
namespace Go.Proofs.Ythpjnbnheagpiaa
open Go.RowKit Go.Suf
set_option linter.unusedVariables false
set_option linter.unusedSimpArgs false

theorem posR_spec (l : List RwQ) (m : List Int) : posR l m ≤ l.length ∧ (∀ k, k < posR l m → ltZ (rth l k).ms m = true) ∧ (posR l m < l.length → ltZ (rth l (posR l m)).ms m = false) := by
  have H : ∀ n, n ≤ l.length → (∀ k, k < n → ltZ (rth l k).ms m = true) ∨ ∃ i, i < n ∧ (∀ k, k < i → ltZ (rth l k).ms m = true) ∧ ltZ (rth l i).ms m = false := by
    intro n
    induction n with
    | zero => exact fun _ => .inl fun k hk => absurd hk (by omega)
    | succ n ih =>
      intro hn
      rcases ih (by omega) with h | ⟨i, h1, h2, h3⟩
      · cases e : ltZ (rth l n).ms m with
        | true => exact .inl fun k hk => if hk2 : k < n then h k hk2 else by rw [show k = n by omega]; exact e
        | false => exact .inr ⟨n, by omega, h, e⟩
      · exact .inr ⟨i, by omega, h2, h3⟩
  rcases H l.length (Nat.le_refl _) with h | ⟨i, h1, h2, h3⟩
  · have e := posR_eq (l := l) (m := m) (i := l.length) (Nat.le_refl _) h (fun h => absurd h (by omega))
    rw [e]
    exact ⟨Nat.le_refl _, h, fun h => absurd h (by omega)⟩
  · have e := posR_eq (l := l) (m := m) (i := i) (by omega) h2 (fun _ => h3)
    rw [e]
    exact ⟨by omega, h2, fun _ => h3⟩
theorem rth_of {l : List RwQ} {i : Nat} {x : RwQ} (h : l[i]? = some x) : rth l i = x := by simp [rth, h]
theorem hasR_iff (l : List RwQ) (m : List Int) : hasR l m = true ↔ posR l m < l.length ∧ (rth l (posR l m)).ms = m := by simp [hasR]
/-- The rows as a relation on neighbours of any distance. -/
theorem rise_pair (l : List RwQ) : RiseR l ↔ l.Pairwise (fun a b => ltZ a.ms b.ms = true) := by
  rw [List.pairwise_iff_getElem]
  constructor
  · intro h i j hi hj hij
    have := h i j hij hj
    rw [rth_of (List.getElem?_eq_getElem hi), rth_of (List.getElem?_eq_getElem hj)] at this
    exact this
  · intro h j k hjk hk
    have := h j k (by omega) hk hjk
    rw [rth_of (List.getElem?_eq_getElem (by omega : j < l.length)), rth_of (List.getElem?_eq_getElem hk)]
    exact this
theorem addR_set {rs : List RwQ} {m : List Int} (h : hasR rs m = true) : addR rs m = rs.set (posR rs m) ⟨m, (rth rs (posR rs m)).many + 1⟩ := by unfold addR; rw [if_pos h]
theorem addR_ins {rs : List RwQ} {m : List Int} (h : hasR rs m = false) : addR rs m = rs.take (posR rs m) ++ [⟨m, 1⟩] ++ rs.drop (posR rs m) := by unfold addR; rw [h]; rfl
theorem addR_len (rs : List RwQ) (m : List Int) : (addR rs m).length = if hasR rs m then rs.length else rs.length + 1 := by
  have hp := (posR_spec rs m).1
  cases h : hasR rs m with
  | true => rw [addR_set h]; simp
  | false =>
    rw [addR_ins h]
    simp
    omega
theorem addR_mem {rs : List RwQ} {m : List Int} {r : RwQ} (h : r ∈ addR rs m) : r ∈ rs ∨ r = ⟨m, 1⟩ ∨ (hasR rs m = true ∧ r = ⟨m, (rth rs (posR rs m)).many + 1⟩) := by
  cases e : hasR rs m with
  | true =>
    rw [addR_set e] at h
    rcases List.mem_or_eq_of_mem_set h with h | h
    · exact .inl h
    · exact .inr (.inr ⟨rfl, h⟩)
  | false =>
    rw [addR_ins e] at h
    rcases List.mem_append.1 h with h | h
    · rcases List.mem_append.1 h with h | h
      · exact .inl (List.mem_of_mem_take h)
      · exact .inr (.inl (List.mem_singleton.1 h))
    · exact .inl (List.mem_of_mem_drop h)
theorem rise_add {rs : List RwQ} (m : List Int) (hR : RiseR rs) : RiseR (addR rs m) := by
  obtain ⟨hp, h1, h2⟩ := posR_spec rs m
  cases e : hasR rs m with
  | true =>
    obtain ⟨hlt, hm⟩ := (hasR_iff rs m).1 e
    rw [addR_set e]
    have hms : ∀ k, k < rs.length → (rth (rs.set (posR rs m) ⟨m, (rth rs (posR rs m)).many + 1⟩) k).ms = (rth rs k).ms := by
      intro k hk
      by_cases hkp : posR rs m = k
      · rw [← hkp, rth_of (List.getElem?_set_self hlt), hm]
      · rw [rth_of ((List.getElem?_set_ne hkp).trans (rth_some hk))]
    intro j k hjk hk
    rw [List.length_set] at hk
    rw [hms j (by omega), hms k hk]
    exact hR j k hjk hk
  | false =>
    have hgt : ∀ k, posR rs m ≤ k → k < rs.length → ltZ m (rth rs k).ms = true := by
      intro k hk hkl
      have h3 := h2 (by omega)
      have h4 : ltZ m (rth rs (posR rs m)).ms = true := by
        rcases ltZ_total (rth rs (posR rs m)).ms m with h | h | h
        · rw [h3] at h; cases h
        · exact absurd ((hasR_iff rs m).2 ⟨by omega, h⟩) (by rw [e]; decide)
        · exact h
      by_cases hkp : k = posR rs m
      · rw [hkp]; exact h4
      · exact ltZ_trans h4 (hR _ k (by omega) hkl)
    rw [addR_ins e, rise_pair, List.append_assoc, List.pairwise_append]
    have hR2 := (rise_pair rs).1 hR
    have hbefore : ∀ a ∈ rs.take (posR rs m), ltZ a.ms m = true := fun a ha => by
      obtain ⟨i, hi, e2⟩ := List.getElem_of_mem ha
      rw [List.length_take] at hi
      rw [List.getElem_take] at e2
      have := h1 i (by omega)
      rw [rth_of (List.getElem?_eq_getElem (by omega : i < rs.length)), e2] at this
      exact this
    have hafter : ∀ b ∈ rs.drop (posR rs m), ltZ m b.ms = true := fun b hb => by
      obtain ⟨i, hi, e2⟩ := List.getElem_of_mem hb
      rw [List.length_drop] at hi
      rw [List.getElem_drop] at e2
      have := hgt (posR rs m + i) (by omega) (by omega)
      rw [rth_of (List.getElem?_eq_getElem (by omega : posR rs m + i < rs.length)), e2] at this
      exact this
    refine ⟨hR2.sublist (List.take_sublist _ _), ?_, ?_⟩
    · show ([(⟨m, 1⟩ : RwQ)] ++ rs.drop (posR rs m)).Pairwise _
      rw [List.pairwise_append]
      refine ⟨List.pairwise_singleton _ _, hR2.sublist (List.drop_sublist _ _), fun a ha b hb => ?_⟩
      rw [List.mem_singleton.1 ha]
      exact hafter b hb
    · intro a ha b hb
      rcases List.mem_append.1 hb with hb | hb
      · rw [List.mem_singleton.1 hb]
        exact hbefore a ha
      · exact ltZ_trans (hbefore a ha) (hafter b hb)
/-- How many ballots of these marks. -/
def cntR : List RwQ → List Int → Int
  | [], _ => 0
  | r :: rs, m => (if r.ms = m then r.many else 0) + cntR rs m
theorem cntR_append (a b : List RwQ) (m : List Int) : cntR (a ++ b) m = cntR a m + cntR b m := by
  induction a with
  | nil => simp [cntR]
  | cons x a ih => simp only [List.cons_append, cntR, ih]; omega
theorem cntR_set : ∀ (rs : List RwQ) (i : Nat) (r : RwQ) (m : List Int), rs[i]? = some r → cntR (rs.set i ⟨r.ms, r.many + 1⟩) m = cntR rs m + if r.ms = m then 1 else 0
  | [], i, r, m, h => by simp at h
  | x :: rs, 0, r, m, h => by
    simp at h
    subst h
    simp only [List.set_cons_zero, cntR]
    split <;> omega
  | x :: rs, i + 1, r, m, h => by
    simp only [List.set_cons_succ, cntR, cntR_set rs i r m (by simpa using h)]
    omega
theorem cntR_add (rs : List RwQ) (m x : List Int) : cntR (addR rs m) x = cntR rs x + if m = x then 1 else 0 := by
  cases e : hasR rs m with
  | true =>
    obtain ⟨hlt, hm⟩ := (hasR_iff rs m).1 e
    have h := cntR_set rs (posR rs m) _ x (rth_some hlt)
    rw [hm] at h
    rw [addR_set e]
    exact h
  | false =>
    have h : cntR rs x = cntR (rs.take (posR rs m)) x + cntR (rs.drop (posR rs m)) x := by rw [← cntR_append, List.take_append_drop]
    rw [addR_ins e, cntR_append, cntR_append, h]
    simp only [cntR]
    omega
theorem sumR_set : ∀ (rs : List RwQ) (i : Nat) (r : RwQ), rs[i]? = some r → sumR (rs.set i ⟨r.ms, r.many + 1⟩) = sumR rs + 1
  | [], i, r, h => by simp at h
  | x :: rs, 0, r, h => by
    simp at h
    subst h
    simp [sumR]
    omega
  | x :: rs, i + 1, r, h => by
    have := sumR_set rs i r (by simpa using h)
    simp only [sumR, List.set_cons_succ, List.map_cons, List.sum_cons] at this ⊢
    omega
theorem sumR_add (rs : List RwQ) (m : List Int) : sumR (addR rs m) = sumR rs + 1 := by
  cases e : hasR rs m with
  | true =>
    obtain ⟨hlt, hm⟩ := (hasR_iff rs m).1 e
    have h := sumR_set rs (posR rs m) _ (rth_some hlt)
    rw [hm] at h
    rw [addR_set e]
    exact h
  | false =>
    have h : sumR rs = sumR (rs.take (posR rs m)) + sumR (rs.drop (posR rs m)) := by rw [← sumR_append, List.take_append_drop]
    rw [addR_ins e, sumR_append, sumR_append, h]
    simp [sumR]
    omega
theorem VR.more {kd : Nat} {cn : Int} {rs : List RwQ} (h : VR kd cn rs) {m : List Int} (hm : ballC kd m cn = 0) (hs : sumR rs ≤ 999) : VR kd cn (addR rs m) := by
  refine ⟨rise_add m h.rise, fun r hr => ?_, fun r hr => ?_, by rw [sumR_add]; omega⟩
  · rcases addR_mem hr with h1 | h1 | ⟨h0, h1⟩
    · exact h.many r h1
    · rw [h1]; exact Int.le_refl _
    · obtain ⟨hlt, -⟩ := (hasR_iff rs m).1 h0
      have := h.many _ (List.mem_of_getElem? (rth_some hlt))
      rw [h1]
      show 1 ≤ _ + (1 : Int)
      omega
  · rcases addR_mem hr with h1 | h1 | ⟨h0, h1⟩
    · exact h.fine r h1
    · rw [h1]; exact hm
    · rw [h1]; exact hm
theorem VR.le {kd : Nat} {cn : Int} {rs : List RwQ} (h : VR kd cn rs) : ∀ r ∈ rs, 0 ≤ r.many ∧ r.many ≤ 1000 := fun r hr => by
  obtain ⟨i, hi, e⟩ := List.getElem_of_mem hr
  obtain ⟨h1, h2, h3, -⟩ := h.part (i := i) (r := r) (by rw [← e]; exact List.getElem?_eq_getElem hi)
  exact ⟨by omega, by omega⟩
theorem VR.none (kd : Nat) (cn : Int) : VR kd cn [] := ⟨fun j k _ h => by simp at h, fun r h => by simp at h, fun r h => by simp at h, by simp [sumR]⟩
/-- Rows that rise and count the same are the same. -/
theorem cntR_low {r : RwQ} {rs : List RwQ} (h : (r :: rs).Pairwise (fun a b => ltZ a.ms b.ms = true)) {m : List Int} (hm : m = r.ms ∨ ltZ m r.ms = true) : cntR rs m = 0 := by
  have H : ∀ x ∈ rs, x.ms ≠ m := fun x hx e => by
    have h1 := (List.pairwise_cons.1 h).1 x hx
    rcases hm with h2 | h2
    · rw [e, h2, ltZ_irrefl] at h1; cases h1
    · have := ltZ_trans h2 h1
      rw [e, ltZ_irrefl] at this
      cases this
  clear h hm
  induction rs with
  | nil => rfl
  | cons x xs ih =>
    have e : cntR xs m = 0 := ih fun y hy => H y (List.mem_cons_of_mem _ hy)
    rw [cntR, e, if_neg (H x (by simp))]
    rfl
theorem rows_eq : ∀ (a b : List RwQ), a.Pairwise (fun x y => ltZ x.ms y.ms = true) → b.Pairwise (fun x y => ltZ x.ms y.ms = true) → (∀ r ∈ a, 1 ≤ r.many) → (∀ r ∈ b, 1 ≤ r.many) → (∀ m, cntR a m = cntR b m) → a = b
  | [], [], _, _, _, _, _ => rfl
  | [], y :: b, _, hb, _, h2, h => by
    have h3 := h y.ms
    have h4 := h2 y (by simp)
    have h5 := cntR_low hb (.inl rfl)
    rw [cntR, cntR, if_pos rfl, h5] at h3
    omega
  | x :: a, [], ha, _, h1, _, h => by
    have h3 := h x.ms
    have h4 := h1 x (by simp)
    have h5 := cntR_low ha (.inl rfl)
    rw [cntR, cntR, if_pos rfl, h5] at h3
    omega
  | x :: a, y :: b, ha, hb, h1, h2, h => by
    have hx := h1 x (by simp)
    have hy := h2 y (by simp)
    have e : x.ms = y.ms := by
      rcases ltZ_total x.ms y.ms with h3 | h3 | h3
      · exfalso
        have h4 := h x.ms
        have hne : y.ms ≠ x.ms := fun e => by rw [e, ltZ_irrefl] at h3; cases h3
        rw [cntR, cntR, if_pos rfl, cntR_low ha (.inl rfl), if_neg hne, cntR_low hb (.inr h3)] at h4
        omega
      · exact h3
      · exfalso
        have h4 := h y.ms
        have hne : x.ms ≠ y.ms := fun e => by rw [e, ltZ_irrefl] at h3; cases h3
        rw [cntR, cntR, if_neg hne, cntR_low ha (.inr h3), if_pos rfl, cntR_low hb (.inl rfl)] at h4
        omega
    have hm : x.many = y.many := by
      have h4 := h x.ms
      rw [cntR, cntR, if_pos rfl, if_pos e.symm, cntR_low ha (.inl rfl), cntR_low hb (.inl e)] at h4
      omega
    have hxy : x = y := by
      cases x; cases y
      simp at e hm
      subst e; subst hm
      rfl
    subst hxy
    rw [rows_eq a b (List.pairwise_cons.1 ha).2 (List.pairwise_cons.1 hb).2 (fun r hr => h1 r (List.mem_cons_of_mem _ hr)) (fun r hr => h2 r (List.mem_cons_of_mem _ hr)) fun m => by
      have := h m
      simp only [cntR] at this
      omega]
/-- The rows of a list of ballots. -/
def rowsL (l : List (List Int)) : List RwQ := l.foldl addR []
theorem rowsL_snoc (l : List (List Int)) (m : List Int) : rowsL (l ++ [m]) = addR (rowsL l) m := by simp [rowsL]
theorem sumR_rows (l : List (List Int)) : sumR (rowsL l) = l.length := by
  unfold rowsL
  suffices H : ∀ (l : List (List Int)) (rs : List RwQ), sumR (l.foldl addR rs) = sumR rs + l.length by
    rw [H]; simp [sumR]
  intro l
  induction l with
  | nil => intro rs; simp
  | cons m l ih =>
    intro rs
    rw [List.foldl_cons, ih, sumR_add]
    simp
    omega
theorem cntR_rows (l : List (List Int)) (x : List Int) : cntR (rowsL l) x = l.count x := by
  unfold rowsL
  suffices H : ∀ (l : List (List Int)) (rs : List RwQ), cntR (l.foldl addR rs) x = cntR rs x + l.count x by
    rw [H]; simp [cntR]
  intro l
  induction l with
  | nil => intro rs; simp
  | cons m l ih =>
    intro rs
    rw [List.foldl_cons, ih, cntR_add, List.count_cons]
    by_cases h : m = x
    · subst h
      simp
      omega
    · rw [if_neg h, if_neg (by simpa using h)]
      omega
theorem VR.rows {kd : Nat} {cn : Int} (l : List (List Int)) (h : ∀ m ∈ l, ballC kd m cn = 0) (hl : l.length ≤ 1000) : VR kd cn (rowsL l) := by
  have H : ∀ i, i ≤ l.length → VR kd cn (rowsL (l.take i)) := by
    intro i
    induction i with
    | zero => intro _; simpa [rowsL] using VR.none kd cn
    | succ i ih =>
      intro hi
      have hlt : i < l.length := by omega
      rw [List.take_add_one, List.getElem?_eq_getElem hlt, Option.toList_some, rowsL_snoc]
      refine (ih (by omega)).more (h _ (List.getElem_mem hlt)) ?_
      rw [sumR_rows, List.length_take]
      omega
  have := H l.length (Nat.le_refl _)
  rwa [List.take_length] at this
theorem rowsL_perm {kd : Nat} {cn : Int} {a b : List (List Int)} (h : ∀ m ∈ a, ballC kd m cn = 0) (hl : a.length ≤ 1000) (hp : a.Perm b) : rowsL a = rowsL b := by
  have h1 := VR.rows a h hl
  have h2 := VR.rows b (fun m hm => h m (hp.mem_iff.2 hm)) (by rw [← hp.length_eq]; exact hl)
  exact rows_eq _ _ ((rise_pair _).1 h1.rise) ((rise_pair _).1 h2.rise) h1.many h2.many fun m => by rw [cntR_rows, cntR_rows, hp.count_eq]
/-- The rows grow. -/
theorem addR_grow (rs : List RwQ) (m : List Int) : rs.length ≤ (addR rs m).length := by rw [addR_len]; split <;> omega
theorem rowsL_grow (a b : List (List Int)) : (rowsL a).length ≤ (rowsL (a ++ b)).length := by
  unfold rowsL
  rw [List.foldl_append]
  generalize a.foldl addR [] = rs
  induction b generalizing rs with
  | nil => exact Nat.le_refl _
  | cons m b ih => exact Nat.le_trans (addR_grow rs m) (ih (addR rs m))
theorem rowsL_len (l : List (List Int)) : (rowsL l).length ≤ l.length := by
  unfold rowsL
  suffices H : ∀ (l : List (List Int)) (rs : List RwQ), (l.foldl addR rs).length ≤ rs.length + l.length by
    simpa using H l []
  intro l
  induction l with
  | nil => intro rs; simp
  | cons m l ih =>
    intro rs
    have h1 := ih (addR rs m)
    have h2 := addR_len rs m
    rw [List.foldl_cons, List.length_cons]
    split at h2 <;> omega

end Go.Proofs.Ythpjnbnheagpiaa
