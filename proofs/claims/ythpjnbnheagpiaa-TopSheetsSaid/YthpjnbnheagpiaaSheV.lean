/- Plain laws of reading: what a reading is, and reading a filled sheet. No program in sight. -/
import Derived.Test.YthpjnbnheagpiaaSheR
import Derived.Test.YthpjnbnheagpiaaSheS
namespace Go.Proofs.Ythpjnbnheagpiaa
open Go.RowKit Go.Suf
set_option linter.unusedVariables false
set_option linter.unusedSimpArgs false

theorem ith_eq {l : List Int} {i : Nat} (h : i < l.length) : ith l i = l[i] := gth_eq 0 h
theorem inc_sorted {l : List Int} (h : l.Pairwise (· < ·)) : ∀ i, i < l.length → 0 < i → ith l (i - 1) < ith l i := fun i hi h0 => by
  rw [ith_eq hi, ith_eq (by omega)]
  exact List.pairwise_iff_getElem.1 h (i - 1) i (by omega) hi (by omega)
theorem nodup_inI {l : List Int} (h : l.Nodup) : ∀ i, i < l.length → inI l i (ith l i) = false := fun i hi => inI_no fun k hk e => by
  rw [ith_eq hi, ith_eq (by omega)] at e
  exact List.pairwise_iff_getElem.1 h k i (by omega) hi hk e
theorem lt_nodup {l : List Int} (h : l.Pairwise (· < ·)) : l.Nodup := h.imp fun h e => by omega
theorem range_lt (f : Nat → Bool) (n : Nat) : (((List.range n).filter f).map fun i => ((i : Nat) : Int)).Pairwise (· < ·) := by
  rw [List.pairwise_map]
  exact (List.Pairwise.filter f List.pairwise_lt_range).imp fun h => by omega
theorem colL_lt (mk : List Bool) (wd j n : Nat) : (colL mk wd j n).Pairwise (· < ·) := range_lt _ n
theorem dbtL_lt (p : PQ) (xs : List Nat) (l : List DQ) (n : Nat) : (dbtL p xs l n).Pairwise (· < ·) := range_lt _ n
theorem rankS_inv (mk : List Bool) (n : Nat) (sk : Int) (f : Nat) : ∀ (j : Nat) (out : List Int) (s : Int), out.Nodup → (∀ x ∈ out, 0 ≤ x ∧ x < (n : Int)) → (rankS mk n sk f j out s).1.Nodup ∧ (∀ x ∈ (rankS mk n sk f j out s).1, 0 ≤ x ∧ x < (n : Int)) ∧ (rankS mk n sk f j out s).1.length ≤ out.length + f ∧ 0 ≤ (rankS mk n sk f j out s).2 := by
  induction f with
  | zero => intro j out s h1 h2; exact ⟨h1, h2, Nat.le_refl _, Int.le_refl _⟩
  | succ f ih =>
    intro j out s h1 h2
    rw [rankS]
    by_cases c1 : 1 < (colL mk n j n).length
    · rw [if_pos c1]; exact ⟨h1, h2, by show out.length ≤ _; omega, by show (0 : Int) ≤ 1; decide⟩
    rw [if_neg c1]
    by_cases c2 : (colL mk n j n).length = 0
    · rw [if_pos c2]
      by_cases c3 : 0 < sk ∧ sk ≤ s + 1
      · rw [if_pos c3]; exact ⟨h1, h2, by show out.length ≤ _; omega, Int.le_refl _⟩
      · rw [if_neg c3]
        obtain ⟨a, b, c, d⟩ := ih (j + 1) out (s + 1) h1 h2
        exact ⟨a, b, by omega, d⟩
    rw [if_neg c2]
    cases hc : inI out out.length (ith (colL mk n j n) 0) with
    | true =>
      rw [if_pos rfl]
      obtain ⟨a, b, c, d⟩ := ih (j + 1) out 0 h1 h2
      exact ⟨a, b, by omega, d⟩
    | false =>
      rw [if_neg (by decide)]
      have hm : ith (colL mk n j n) 0 ∈ colL mk n j n := gth_mem 0 (by omega)
      obtain ⟨v, hv, hv2⟩ := colL_in mk n j n _ hm
      have hno : ith (colL mk n j n) 0 ∉ out := by
        intro hin
        obtain ⟨k, hk, e⟩ := List.getElem_of_mem hin
        have := inI_yes (xs := out) (i := out.length) (v := ith (colL mk n j n) 0) hk (by rw [ith_eq hk]; exact e)
        rw [hc] at this
        cases this
      obtain ⟨a, b, c, d⟩ := ih (j + 1) (out ++ [ith (colL mk n j n) 0]) 0 (by
        rw [List.nodup_append]
        refine ⟨h1, by simp, fun x hx y hy e => ?_⟩
        simp at hy
        exact hno (by rw [← hy, ← e]; exact hx)) (by
        intro x hx
        rcases List.mem_append.1 hx with hx | hx
        · exact h2 x hx
        · simp at hx
          omega)
      refine ⟨a, b, ?_, d⟩
      rw [List.length_append, List.length_singleton] at c
      omega
theorem lastS_ten (mk : List Bool) (i : Nat) : lastS mk i 11 ≤ 10 := by
  have h := lastS_le mk i 10
  rw [lastS]
  split <;> omega
theorem scoL_len (mk : List Bool) (n : Nat) : (scoL mk n).length = n := by simp [scoL]
theorem ith_sco {mk : List Bool} {n i : Nat} (h : i < n) : ith (scoL mk n) i = scoreS mk i := by
  rw [ith_eq (by rw [scoL_len]; exact h)]
  simp [scoL]
theorem range_in {l : List Int} {n : Int} (h : ∀ x ∈ l, 0 ≤ x ∧ x < n) : ∀ i, i < l.length → 0 ≤ ith l i ∧ ith l i < n := fun i hi => h _ (gth_mem 0 hi)
theorem rank_all : ∀ n, kindN n = 1 → ¬ (n = 1 ∨ listsN n = true) := upto17 (by decide) (fun n => by simp [kindN, ruleOf])
/-- What a reading's ballot is. -/
theorem body_may {rule n : Nat} {p : PQ} {mk : List Bool} (hn : 1 ≤ n) (hk : kindN rule = 1 ∨ kindN rule = 2 ∨ kindN rule = 3) (hl : kindN rule = 2 → mk.length = n) :
    fineQ (kindN rule) (bodyR (kindN rule) n rule p mk).1 (n : Nat) = true ∧ 0 ≤ (bodyR (kindN rule) n rule p mk).2 ∧ (((bodyR (kindN rule) n rule p mk).1.length : Nat) : Int) ≤ (if kindN rule = 3 then (n : Int) else marksN rule (n : Nat)) := by
  have hm := marks_le (rule := rule) (c := (n : Nat)) (by omega)
  have hm1 : 1 ≤ marksN rule (n : Nat) := by unfold marksN; split <;> omega
  rcases hk with h | h | h
  · have hr := rank_all rule h
    rw [h]
    unfold bodyR
    rw [if_pos rfl, if_neg (by decide)]
    unfold ranksR
    obtain ⟨a, b, c, d⟩ := rankS_inv mk n p.skips n 0 [] 0 List.nodup_nil (fun x hx => by cases hx)
    refine ⟨?_, d, ?_⟩
    · unfold fineQ
      rw [if_neg (by decide), if_pos (.inl rfl), decide_eq_true (range_in b), decide_eq_true (nodup_inI a)]
      rfl
    · unfold marksN
      rw [if_neg hr]
      simp only [List.length_nil, Nat.zero_add] at c
      omega
  · rw [h]
    unfold bodyR
    rw [if_neg (by decide), if_neg (by decide), if_neg (by decide)]
    unfold marksR
    rw [hl h]
    by_cases hc : marksN rule (n : Nat) < ((colL mk 1 0 n).length : Int)
    · rw [if_pos hc]
      refine ⟨?_, by show (0 : Int) ≤ 1; decide, by show (0 : Int) ≤ _; omega⟩
      unfold fineQ
      rw [if_neg (by decide), if_pos (.inr rfl), decide_eq_true (fun i hi => absurd hi (by simp)), decide_eq_true (fun i hi => absurd hi (by simp)), decide_eq_true (fun i hi => absurd hi (by simp))]
      rfl
    · rw [if_neg hc]
      refine ⟨?_, Int.le_refl _, by show ((colL mk 1 0 n).length : Int) ≤ _; omega⟩
      unfold fineQ
      rw [if_neg (by decide), if_pos (.inr rfl), decide_eq_true (range_in fun x hx => by obtain ⟨i, rfl, hi⟩ := colL_in _ _ _ _ x hx; omega), decide_eq_true (inc_sorted (colL_lt _ _ _ _)), decide_eq_true (nodup_inI (lt_nodup (colL_lt _ _ _ _)))]
      rfl
  · rw [h]
    unfold bodyR
    rw [if_neg (by decide), if_pos rfl, if_pos rfl]
    unfold scoresR
    refine ⟨?_, Int.natCast_nonneg _, by rw [scoL_len]; exact Int.le_refl _⟩
    unfold fineQ
    rw [if_pos rfl, scoL_len, decide_eq_true rfl, decide_eq_true]
    · rfl
    intro i hi
    rw [ith_sco hi]
    have := lastS_ten mk i
    unfold scoreS
    split <;> omega
/-- What the boxes in doubt are. -/
theorem doubt_may (p : PQ) (xs : List Nat) (l : List DQ) {i : Nat} (hi : i < (dbtL p xs l xs.length).length) : ∃ a : Nat, ith (dbtL p xs l xs.length) i = (a : Int) ∧ a < xs.length ∧ doubtB p (nth xs a) = true ∧ (0 < i → ith (dbtL p xs l xs.length) (i - 1) < (a : Int)) := by
  have hm : ith (dbtL p xs l xs.length) i ∈ dbtL p xs l xs.length := gth_mem 0 hi
  have hs := inc_sorted (dbtL_lt p xs l xs.length) i hi
  obtain ⟨v, hv⟩ : ∃ v, ith (dbtL p xs l xs.length) i = v := ⟨_, rfl⟩
  rw [hv] at hm hs ⊢
  unfold dbtL at hm
  simp at hm
  obtain ⟨a, ⟨ha, hb⟩, rfl⟩ := hm
  unfold dbtB at hb
  rw [Bool.and_eq_true] at hb
  exact ⟨a, rfl, ha, hb.1, hs⟩

/-! ### Reading a filled sheet -/
theorem fill_at {kd n nb : Nat} {ms : List Int} (i : Nat) (b : Nat) (hb : b < nb) : nth (fillI kd n nb ms i) b = if ∃ k, k < i ∧ posF kd n ms k = b then 100 else 0 := by
  induction i with
  | zero =>
    rw [if_neg (by rintro ⟨k, hk, _⟩; omega)]
    simp [fillI, zs, nth, List.getD_eq_getElem?_getD, hb]
  | succ i ih =>
    rw [fillI]
    by_cases e : posF kd n ms i < nb
    · rw [nth_set 100 (by rw [fillI_len]; exact e), ih]
      by_cases e2 : b = posF kd n ms i
      · rw [if_pos e2, if_pos ⟨i, by omega, e2.symm⟩]
      · rw [if_neg e2]
        by_cases e3 : ∃ k, k < i ∧ posF kd n ms k = b
        · obtain ⟨k, hk, h⟩ := e3
          rw [if_pos ⟨k, hk, h⟩, if_pos ⟨k, by omega, h⟩]
        · rw [if_neg e3, if_neg]
          rintro ⟨k, hk, h⟩
          by_cases e4 : k = i
          · subst e4; exact e2 h.symm
          · exact e3 ⟨k, by omega, h⟩
    · have e5 : (fillI kd n nb ms i).set (posF kd n ms i) 100 = fillI kd n nb ms i := by
        refine List.set_eq_of_length_le ?_
        rw [fillI_len]; omega
      rw [e5, ih]
      by_cases e3 : ∃ k, k < i ∧ posF kd n ms k = b
      · obtain ⟨k, hk, h⟩ := e3
        rw [if_pos ⟨k, hk, h⟩, if_pos ⟨k, by omega, h⟩]
      · rw [if_neg e3, if_neg]
        rintro ⟨k, hk, h⟩
        by_cases e4 : k = i
        · subst e4; omega
        · exact e3 ⟨k, by omega, h⟩
theorem fill_le {kd n nb : Nat} {ms : List Int} (i : Nat) : ∀ x ∈ fillI kd n nb ms i, x ≤ 100 := by
  induction i with
  | zero =>
    intro x hx
    have : x = 0 := by
      unfold fillI zs at hx
      exact List.eq_of_mem_replicate hx
    omega
  | succ i ih =>
    intro x hx
    rw [fillI] at hx
    rcases List.mem_or_eq_of_mem_set hx with hx | rfl
    · exact ih x hx
    · exact Nat.le_refl _
theorem inc_ext : ∀ {l m : List Int}, l.Pairwise (· < ·) → m.Pairwise (· < ·) → (∀ x, x ∈ l ↔ x ∈ m) → l = m := by
  intro l
  induction l with
  | nil =>
    intro m _ _ h
    cases m with
    | nil => rfl
    | cons y m => exact absurd ((h y).2 (by simp)) (by simp)
  | cons x l ih =>
    intro m h1 h2 h
    cases m with
    | nil => exact absurd ((h x).1 (by simp)) (by simp)
    | cons y m =>
      rw [List.pairwise_cons] at h1 h2
      have hxy : x = y := by
        have a := (h x).1 (by simp)
        have b := (h y).2 (by simp)
        rcases List.mem_cons.1 a with a | a
        · exact a
        · rcases List.mem_cons.1 b with b | b
          · exact b.symm
          · have := h1.1 y b
            have := h2.1 x a
            omega
      subst hxy
      congr 1
      refine ih h1.2 h2.2 fun z => ?_
      constructor
      · intro hz
        rcases List.mem_cons.1 ((h z).1 (List.mem_cons_of_mem _ hz)) with e | e
        · subst e; have := h1.1 z hz; omega
        · exact e
      · intro hz
        rcases List.mem_cons.1 ((h z).2 (List.mem_cons_of_mem _ hz)) with e | e
        · subst e; have := h2.1 z hz; omega
        · exact e
theorem sorted_inc {l : List Int} (h : ∀ i, i < l.length → 0 < i → ith l (i - 1) < ith l i) : l.Pairwise (· < ·) := by
  rw [List.pairwise_iff_getElem]
  intro i j hi hj hij
  have key : ∀ d, i + d + 1 < l.length → ith l i < ith l (i + d + 1) := by
    intro d
    induction d with
    | zero => intro hd; have := h (i + 1) hd (by omega); simpa using this
    | succ d ih =>
      intro hd
      have h1 := ih (by omega)
      have h2 := h (i + (d + 1) + 1) hd (by omega)
      rw [Nat.add_sub_cancel] at h2
      exact Int.lt_trans h1 h2
  have := key (j - i - 1) (by omega)
  rw [show i + (j - i - 1) + 1 = j by omega, ith_eq hi, ith_eq hj] at this
  exact this
theorem mem_col {mk : List Bool} {wd j n : Nat} (x : Int) : x ∈ colL mk wd j n ↔ ∃ i : Nat, x = (i : Int) ∧ i < n ∧ bth mk (i * wd + j) = true := by
  unfold colL
  simp
  constructor
  · rintro ⟨a, ⟨h1, h2⟩, rfl⟩; exact ⟨a, rfl, h1, h2⟩
  · rintro ⟨a, rfl, h1, h2⟩; exact ⟨a, ⟨h1, h2⟩, rfl⟩
theorem mem_ith {l : List Int} (x : Int) : x ∈ l ↔ ∃ i, i < l.length ∧ ith l i = x := by
  constructor
  · intro h
    obtain ⟨i, hi, e⟩ := List.getElem_of_mem h
    exact ⟨i, hi, by rw [ith_eq hi]; exact e⟩
  · rintro ⟨i, hi, rfl⟩
    exact gth_mem 0 hi
theorem ovr_none {mk : List Bool} (n : Nat) (h : ∀ i, i < n → ¬ 1 < cntS mk i 11) : ovrS mk n = 0 := by
  induction n with
  | zero => rfl
  | succ n ih => rw [ovrS_same (h n (by omega))]; exact ih fun i hi => h i (by omega)
theorem rank_back {mk : List Bool} {n : Nat} {ms : List Int} (sk : Int) (hl : ms.length ≤ n) (hd : ∀ i, i < ms.length → inI ms i (ith ms i) = false) (hc : ∀ j, j < n → colL mk n j n = if j < ms.length then [ith ms j] else []) (f : Nat) : ∀ (j : Nat) (s : Int), f + j = n → rankS mk n sk f j (ms.take j) s = (ms, 0) := by
  induction f with
  | zero =>
    intro j s h
    rw [rankS, List.take_of_length_le (by omega)]
  | succ f ih =>
    intro j s h
    rw [rankS, hc j (by omega)]
    by_cases hj : j < ms.length
    · rw [if_pos hj, if_neg (by simp), if_neg (by simp)]
      have e : ith [ith ms j] 0 = ith ms j := rfl
      have e2 : inI (ms.take j) (ms.take j).length (ith ms j) = false := by
        refine inI_no fun k hk e3 => ?_
        rw [List.length_take] at hk
        have h1 := hd j hj
        have h2 : ith (ms.take j) k = ith ms k := by rw [ith_eq (by rw [List.length_take]; omega), ith_eq (by omega)]; simp
        rw [h2] at e3
        rw [inI_yes (by omega) e3] at h1
        cases h1
      rw [e, e2, if_neg (by decide)]
      have e4 : ms.take j ++ [ith ms j] = ms.take (j + 1) := by rw [List.take_succ_eq_append_getElem hj, ith_eq hj]
      rw [e4]
      exact ih (j + 1) 0 (by omega)
    · rw [if_neg hj, if_neg (by simp), if_pos (by simp)]
      have e : ms.take j = ms.take (j + 1) := by rw [List.take_of_length_le (by omega), List.take_of_length_le (by omega)]
      by_cases h3 : 0 < sk ∧ sk ≤ s + 1
      · rw [if_pos h3, List.take_of_length_le (by omega)]
      · rw [if_neg h3, e]
        exact ih (j + 1) (s + 1) (by omega)
/-- Reading a filled sheet gives the ballot. -/
theorem body_back {ss : List ByteArray} {rule kd : Nat} {ms : List Int} {p : PQ} {mk : List Bool} (hn : 1 ≤ ss.length) (hn10 : ss.length ≤ 10) (hf : fitsB ss rule kd ms = true) (hl : mk.length = boxesN ss rule)
    (hm : ∀ b, b < boxesN ss rule → (bth mk b = true ↔ ∃ k, k < ms.length ∧ posF kd ss.length ms k = b)) : bodyR kd ss.length rule p mk = (ms, 0) := by
  have hp := fun k hk => pos_lt (k := k) hn hn10 hf hk
  have hf2 := hf
  unfold fitsB at hf2
  simp only [Bool.and_eq_true, Bool.or_eq_true, decide_eq_true_eq] at hf2
  obtain ⟨h1, h2, h3⟩ := hf2
  have hml := marks_le (rule := rule) (c := (ss.length : Nat)) (by omega)
  unfold boxesN at hl hm hp
  rw [← h1] at hl hm hp
  clear hf
  generalize ss.length = n at *
  have hfi := h2
  rcases fine_kinds h2 with rfl | rfl | rfl
  · -- ranks
    unfold fineQ at hfi
    rw [if_neg (by decide), if_pos (.inl rfl)] at hfi
    simp only [Bool.and_eq_true, decide_eq_true_eq] at hfi
    have hlen : ms.length ≤ n := by omega
    unfold wideN at hl hm hp
    rw [if_pos rfl] at hl hm
    simp only [if_true] at hp
    unfold bodyR
    rw [if_pos rfl]
    unfold ranksR
    refine rank_back p.skips hlen hfi.2 (fun j hj => ?_) n 0 0 (by omega)
    have hidx : ∀ i, i < n → i * n + j < n * n := fun i hi => by
      have e : (i + 1) * n ≤ n * n := Nat.mul_le_mul_right _ (by omega)
      rw [Nat.succ_mul] at e
      omega
    have huniq : ∀ (a b c d : Nat), b < n → d < n → a * n + b = c * n + d → a = c ∧ b = d := by
      intro a b c d hb hd e
      have e1 : (a * n + b) / n = a := by rw [Nat.mul_comm, Nat.mul_add_div (by omega), Nat.div_eq_of_lt hb, Nat.add_zero]
      have e2 : (c * n + d) / n = c := by rw [Nat.mul_comm, Nat.mul_add_div (by omega), Nat.div_eq_of_lt hd, Nat.add_zero]
      rw [e, e2] at e1
      subst e1
      omega
    have key : ∀ x, x ∈ colL mk n j n ↔ j < ms.length ∧ x = ith ms j := by
      intro x
      rw [mem_col]
      constructor
      · rintro ⟨i, rfl, hi, hb⟩
        obtain ⟨k, hk, e⟩ := (hm _ (hidx i hi)).1 hb
        obtain ⟨m, m1, -, -, m4⟩ := (hp k hk).2
        rw [m4] at e
        obtain ⟨rfl, rfl⟩ := huniq m k i j (by omega) hj e
        exact ⟨hk, m1.symm⟩
      · rintro ⟨hk, rfl⟩
        obtain ⟨m, m1, -, -, m4⟩ := (hp j hk).2
        have hr := hfi.1.1 j hk
        rw [m1] at hr
        exact ⟨m, m1, by omega, (hm _ (hidx m (by omega))).2 ⟨j, hk, m4⟩⟩
    by_cases hj2 : j < ms.length
    · rw [if_pos hj2]
      refine inc_ext (colL_lt _ _ _ _) (List.pairwise_singleton _ _) fun x => ?_
      rw [key, List.mem_singleton]
      exact ⟨fun h => h.2, fun h => ⟨hj2, h⟩⟩
    · rw [if_neg hj2]
      refine List.eq_nil_iff_forall_not_mem.2 fun x hx => ?_
      exact hj2 ((key x).1 hx).1
  · -- marks
    unfold fineQ at hfi
    rw [if_neg (by decide), if_pos (.inr rfl)] at hfi
    simp only [Bool.and_eq_true, Bool.or_eq_true, decide_eq_true_eq] at hfi
    unfold wideN at hl hm hp
    rw [if_neg (by decide), if_neg (by decide), Nat.mul_one] at hl hm
    unfold bodyR
    rw [if_neg (by decide), if_neg (by decide)]
    unfold marksR
    rw [hl]
    have e : colL mk 1 0 n = ms := by
      refine inc_ext (colL_lt _ _ _ _) (sorted_inc (by
        rcases hfi.1.2 with h | h
        · cases h
        · exact h)) fun x => ?_
      rw [mem_col, mem_ith]
      constructor
      · rintro ⟨i, rfl, hi, hb⟩
        rw [Nat.mul_one, Nat.add_zero] at hb
        obtain ⟨k, hk, e⟩ := (hm i hi).1 hb
        obtain ⟨m, m1, -, -, m4⟩ := (hp k hk).2
        rw [if_neg (by decide), if_neg (by decide)] at m4
        exact ⟨k, hk, by rw [m1]; omega⟩
      · rintro ⟨k, hk, rfl⟩
        obtain ⟨m, m1, -, -, m4⟩ := (hp k hk).2
        rw [if_neg (by decide), if_neg (by decide)] at m4
        have hr := hfi.1.1 k hk
        rw [m1] at hr
        refine ⟨m, m1, by omega, ?_⟩
        rw [Nat.mul_one, Nat.add_zero]
        exact (hm m (by omega)).2 ⟨k, hk, m4⟩
    rw [e, if_neg]
    rcases h3 with h3 | h3
    · cases h3
    · omega
  · -- scores
    have hlen := fine_len h2
    unfold wideN at hl hm hp
    rw [if_neg (by decide), if_pos rfl] at hl hm
    unfold bodyR
    rw [if_neg (by decide), if_pos rfl]
    unfold scoresR
    have hs : ∀ i, i < n → scoreS mk i = ith ms i ∧ ¬ 1 < cntS mk i 11 := by
      intro i hi
      obtain ⟨m, m1, m2, -, m4⟩ := (hp i (by omega)).2
      rw [if_neg (by decide), if_pos rfl] at m4
      rw [m1]
      refine score_one ((hm _ (by omega)).2 ⟨i, by omega, m4⟩) (by omega) fun j hj hjm => ?_
      rw [← Bool.not_eq_true]
      intro hb
      obtain ⟨k, hk, e⟩ := (hm _ (by omega)).1 hb
      obtain ⟨m', m1', m2', -, m4'⟩ := (hp k hk).2
      rw [if_neg (by decide), if_pos rfl] at m4'
      rw [m4'] at e
      obtain rfl : k = i := by omega
      rw [m1] at m1'
      omega
    rw [ovr_none n fun i hi => (hs i hi).2]
    congr 1
    refine g_ext 0 (by rw [scoL_len]; omega) fun i hi => ?_
    rw [scoL_len] at hi
    rw [show gth 0 (scoL mk n) i = ith (scoL mk n) i from rfl, ith_sco hi]
    exact (hs i hi).1
theorem readR_back {nm : ByteArray} {ss : List ByteArray} {seats : Int} {rule kd : Nat} {ms : List Int} {p : PQ} (h1 : checkC nm ss seats rule = 0) (hn : 1 ≤ ss.length) (hn10 : ss.length ≤ 10) (hf : fitsB ss rule kd ms = true) :
    readR nm ss seats rule p (fillI kd ss.length (boxesN ss rule) ms ms.length) [] = if mayP p = true then (⟨kd, ms, 0, []⟩, 0) else (zeroR, 2) := by
  obtain ⟨xs, hxs⟩ : ∃ xs, fillI kd ss.length (boxesN ss rule) ms ms.length = xs := ⟨_, rfl⟩
  have hxl : xs.length = boxesN ss rule := by rw [← hxs]; exact fillI_len _ _ _ _ _
  rw [hxs]
  have hsh : sheetC nm ss seats rule xs = 0 := by
    unfold sheetC
    rw [if_pos h1, if_pos]
    refine ⟨hxl, ?_⟩
    rw [List.any_eq_false]
    intro x hx
    rw [← hxs] at hx
    have := fill_le _ x hx
    rw [decide_eq_true_eq]
    omega
  by_cases hp : mayP p = true
  · rw [if_pos hp]
    obtain ⟨p1, p2, p3, p4, p5⟩ := may_facts hp
    have hdec : decB p xs [] = true := (decB_iff _ _ _).2 ⟨(fun d hd => by cases hd), by simp⟩
    rw [readR_eq ⟨hsh, hp, Nat.zero_le _, hdec⟩]
    have hkd : kd = kindN rule := by
      unfold fitsB at hf
      simp only [Bool.and_eq_true, decide_eq_true_eq] at hf
      exact hf.1
    have hbox : ∀ b, b < xs.length → doubtB p (nth xs b) = false ∧ (decide (p.high ≤ nth xs b) = true ↔ ∃ k, k < ms.length ∧ posF kd ss.length ms k = b) := by
      intro b hb
      have e := fill_at (kd := kd) (n := ss.length) (ms := ms) ms.length b (nb := boxesN ss rule) (by omega)
      rw [hxs] at e
      rw [e]
      unfold doubtB
      by_cases h : ∃ k, k < ms.length ∧ posF kd ss.length ms k = b
      · rw [if_pos h]
        refine ⟨by simp; omega, ⟨fun _ => h, fun _ => decide_eq_true (by omega)⟩⟩
      · rw [if_neg h]
        refine ⟨by simp; omega, ⟨fun h2 => ?_, fun h2 => absurd h2 h⟩⟩
        have := of_decide_eq_true h2
        omega
    have e1 := body_back (p := p) (mk := markL p xs [] xs.length) hn hn10 hf (by rw [markL_len]; exact hxl) fun b hb => by
      rw [bth_mark (by omega)]
      unfold markB
      rw [(hbox b (by omega)).1, if_neg (by decide)]
      exact (hbox b (by omega)).2
    have e2 : dbtL p xs [] xs.length = [] := by
      unfold dbtL
      rw [List.filter_eq_nil_iff.2]
      · rfl
      intro b hb
      have := List.mem_range.1 hb
      unfold dbtB
      rw [(hbox b this).1]
      simp
    rw [← hkd, e1, e2]
  · rw [if_neg hp]
    unfold readR
    rw [if_pos hsh, if_neg hp]

end Go.Proofs.Ythpjnbnheagpiaa
