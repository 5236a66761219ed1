/- What the laws about rolls lean on: encoding and its inverse, counts, one operation after another. Plain laws. No condition. -/
import Derived.Test.YtnjkfjecnicccaaRolZ
import Derived.Test.YtnjkfjecnicccaaMem
import Derived.Test.YtnjkfjecnicccaaRolJ
import Derived.Test.YtnjkfjecnicccaaRolS
namespace Go.Proofs.Ytnjkfjecnicccaa
open Go.RowKit Go.Suf
set_option linter.unusedVariables false
set_option linter.unusedSimpArgs false

theorem byts_of {xs : List Nat} (h : ∀ x ∈ xs, x < 256) : byts (strB xs) = xs := by
  unfold byts strB
  simp only [List.map_map]
  refine (List.map_congr_left (fun x hx => ?_)).trans (List.map_id _)
  have := h x hx
  simp
  omega

theorem field_of {f : List Nat} (h : 2 ≤ f.length) (hb : ∀ x ∈ f, x < 256) : fldV (votF f) = f := by
  match f, h with
  | a :: b :: r, _ =>
    show ((((a : Nat) : Int).toNat) :: b :: byts (strB r)) = _
    rw [byts_of (fun x hx => hb x (by simp [hx]))]
    rfl

theorem votF_fld {v : VQ} (h : mayV v = true) : votF (fldV v) = v := by
  have h1 := (valid_of h).1.1
  obtain ⟨nm, pc, st⟩ := v
  show VQ.mk (strB (byts nm)) ((pc.toNat : Nat) : Int) st = _
  rw [strB_byts]
  simp only at h1
  rw [h1]

theorem may_mem {vs : List VQ} (h : chkV vs = 0) : ∀ v ∈ vs, mayV v = true := fun v hv => by
  obtain ⟨k, hk, rfl⟩ := List.getElem_of_mem hv
  have := (rise_of h).2.2 k hk
  rwa [vth_eq hk] at this

theorem back_ok {vs : List VQ} (h : chkV vs = 0) : (bytesV vs).2 = 0 ∧ readV (bytesV vs).1 = (vs, 0) := by
  have h0 := bytesV_ok h
  have hj : joinX [] (vs.map fldV) = bytesV vs := by unfold bytesV; rw [if_pos h]
  have h2 : (bytesV vs).2 = 0 := by rw [h0]
  refine ⟨h2, ?_⟩
  have hm : (vs.map fldV).map votF = vs := by
    rw [List.map_map]
    exact (List.map_congr_left (fun v hv => votF_fld (may_mem h v hv))).trans (List.map_id _)
  have hs := split_join (vs.map fldV) (by rw [hj]; exact h2)
  rw [hj] at hs
  unfold readV
  rw [hs]
  dsimp only
  rw [if_pos rfl]
  unfold fmtV
  rw [hm, if_pos]
  refine ⟨?_, h⟩
  rw [List.all_eq_true]
  intro f hf
  obtain ⟨v, _, rfl⟩ := List.mem_map.1 hf
  simp [fldV]

theorem bytes_bad {vs : List VQ} (h : ¬ chkV vs = 0) : bytesV vs = ([], chkV vs) := by
  unfold bytesV
  rw [if_neg h]

theorem back_bytes {xs : List Nat} (hx : ∀ x ∈ xs, x < 256) : ((readV xs).2 = 0 ∧ bytesV (readV xs).1 = (xs, 0)) ∨ (¬ (readV xs).2 = 0 ∧ (readV xs).1 = []) := by
  rcases join_split xs hx with ⟨h0, h1, h2⟩ | ⟨h0, h1⟩
  · unfold readV
    rw [if_pos h0]
    unfold fmtV
    by_cases hc : ((splitX xs).1.all fun f => decide (2 ≤ f.length)) = true ∧ chkV ((splitX xs).1.map votF) = 0
    · rw [if_pos hc]
      left
      refine ⟨rfl, ?_⟩
      dsimp only
      unfold bytesV
      rw [if_pos hc.2, List.map_map]
      have hb : ∀ f ∈ (splitX xs).1, ∀ x ∈ f, x < 256 := by
        intro f hf x hxf
        rw [joinX_eq _ _ (Nat.zero_le _)] at h1
        split at h1
        · have e : (splitX xs).1.flatMap field = xs := by simpa using h1
          refine hx x ?_
          rw [← e]
          exact List.mem_flatMap.2 ⟨f, hf, by simp [field, hxf]⟩
        · simp at h1
      have : (splitX xs).1.map (fldV ∘ votF) = (splitX xs).1 := (List.map_congr_left (fun f hf => field_of (by have := List.all_eq_true.1 hc.1 f hf; simpa using this) (hb f hf))).trans (List.map_id _)
      rw [this, h1]
    · rw [if_neg hc]
      exact .inr ⟨by show ¬ (11 : Int) = 0; decide, rfl⟩
  · unfold readV
    rw [if_neg h0]
    exact .inr ⟨h0, rfl⟩

/-- The two ways of an encoding, and of a decoding. -/
theorem back_cases (vs : List VQ) : (chkV vs = 0 ∧ ∃ bs, bs.length ≤ 16384 ∧ bytesV vs = (bs, 0) ∧ readV bs = (vs, 0)) ∨ (∃ ck, ((ck != (0 : Int)) = true ∧ (ck == (0 : Int)) = false) ∧ chkV vs = ck ∧ bytesV vs = ([], ck)) := by
  by_cases h : chkV vs = 0
  · obtain ⟨h1, h2⟩ := back_ok h
    refine .inl ⟨h, (bytesV vs).1, ?_, by rw [← h1], h2⟩
    unfold bytesV
    rw [if_pos h]
    exact joinX_length _
  · exact .inr ⟨chkV vs, by simpa using h, rfl, bytes_bad h⟩
theorem back_cases2 {xs : List Nat} (hx : ∀ x ∈ xs, x < 256) : (∃ us, readV xs = (us, 0) ∧ bytesV us = (xs, 0)) ∨ (∃ k, ((k != (0 : Int)) = true ∧ (k == (0 : Int)) = false) ∧ readV xs = ([], k)) := by
  rcases back_bytes hx with ⟨h1, h2⟩ | ⟨h1, h2⟩
  · exact .inl ⟨(readV xs).1, by rw [← h1], h2⟩
  · exact .inr ⟨(readV xs).2, by simpa using h1, by rw [← h2]⟩

/-- Voters of a state in the precincts below p. -/
def loV (vs : List VQ) (p s : Nat) : Nat := vs.countP fun v => decide (v.st = s) && decide (0 ≤ v.pc) && decide (v.pc < (p : Int))
theorem lo_zero (vs : List VQ) (s : Nat) : loV vs 0 s = 0 := by
  unfold loV
  rw [List.countP_eq_zero]
  intro v _
  simp
theorem lo_step (vs : List VQ) (p s : Nat) : loV vs (p + 1) s = loV vs p s + manyV vs (p : Nat) s := by
  induction vs with
  | nil => rfl
  | cons v vs ih =>
    unfold loV manyV hasV inV at *
    simp only [List.countP_cons]
    rw [ih]
    by_cases h0 : v.st = s
    · simp only [h0, decide_true, Bool.true_and, Bool.and_eq_true, Bool.or_eq_true, decide_eq_true_eq]
      split <;> split <;> split <;> omega
    · simp [h0]
theorem lo_all {vs : List VQ} (h : ∀ v ∈ vs, mayV v = true) (s : Nat) : loV vs 8 s = manyV vs (-1) s := by
  unfold loV manyV
  refine List.countP_congr fun v hv => ?_
  have := h v hv
  simp only [mayV, Bool.and_eq_true, decide_eq_true_eq] at this
  simp only [hasV, inV, Bool.and_eq_true, Bool.or_eq_true, decide_eq_true_eq]
  omega
theorem lo_le (vs : List VQ) (p s : Nat) : loV vs p s ≤ vs.length := List.countP_le_length
theorem many_sum {vs : List VQ} (h : ∀ v ∈ vs, mayV v = true) : manyV vs (-1) 1 + manyV vs (-1) 2 + manyV vs (-1) 3 + manyV vs (-1) 4 = vs.length := by
  induction vs with
  | nil => rfl
  | cons v vs ih =>
    have h1 := ih (fun u hu => h u (List.mem_cons_of_mem _ hu))
    have h2 := h v List.mem_cons_self
    simp only [mayV, Bool.and_eq_true, decide_eq_true_eq] at h2
    unfold manyV hasV inV at *
    simp only [List.countP_cons, List.length_cons]
    obtain h3 | h3 | h3 | h3 : v.st = 1 ∨ v.st = 2 ∨ v.st = 3 ∨ v.st = 4 := by omega
    all_goals (simp [h3] at h1 ⊢; omega)
theorem many_set {vs : List VQ} {k : Nat} (hk : k < vs.length) (y s : Nat) : manyV (vs.set k ⟨(vth vs k).nm, (vth vs k).pc, y⟩) (-1) s + (if (vth vs k).st = s then 1 else 0) = manyV vs (-1) s + (if y = s then 1 else 0) := by
  induction vs generalizing k with
  | nil => simp at hk
  | cons v vs ih =>
    cases k with
    | zero =>
      unfold manyV hasV inV vth
      simp [List.countP_cons]
      by_cases h1 : v.st = s <;> by_cases h2 : y = s <;> simp [h1, h2]
    | succ k =>
      have := ih (k := k) (by simpa using hk)
      unfold manyV vth at *
      simp only [List.set_cons_succ, List.countP_cons, List.getD_cons_succ] at *
      omega

/-- After some operations: names and precincts stand, and who has voted is counted. -/
def OnceI (vs ns : List VQ) (vt : List Nat) : Prop := ns.length = vs.length ∧ vt.length = vs.length ∧ ∀ i, i < vs.length → (vth ns i).nm = (vth vs i).nm ∧ (vth ns i).pc = (vth vs i).pc ∧ nth vt i + (if (vth vs i).st = 3 then 1 else 0) = (if (vth ns i).st = 3 then 1 else 0)

theorem once_start (vs : List VQ) : OnceI vs vs (zs vs.length) := by
  refine ⟨rfl, by simp [zs], fun i hi => ⟨rfl, rfl, ?_⟩⟩
  simp [zs, nth, List.getD_eq_getElem?_getD, List.getElem?_replicate, hi]

theorem once_step {vs ns : List VQ} {vt : List Nat} (hR : Rise vs) (h : OnceI vs ns vt) {t : Nat} (ht : t < vs.length) (k : Int) (ho : (opV ns (vth vs t).nm (wasN k) (isN k)).2 = 0) :
    ¬ (vth ns t).st = 3 ∧ (opV ns (vth vs t).nm (wasN k) (isN k)).1.length = vs.length ∧ (vth (opV ns (vth vs t).nm (wasN k) (isN k)).1 t).st = isN k ∧
    nth vt t ≤ 1 ∧ OnceI vs (opV ns (vth vs t).nm (wasN k) (isN k)).1 (if isN k = 3 then vt.set t (nth vt t + 1) else vt) := by
  obtain ⟨hl, hvt, hI⟩ := h
  rcases opV_spec ns (vth vs t).nm (wasN k) (isN k) with ⟨h1, _⟩ | ⟨_, _, m, hm, h2, h3, h4⟩
  · exact absurd ho h1
  have hmt : m = t := Classical.byContradiction fun hne => by
    have := (hI m (by omega)).1
    rw [h2] at this
    exact rise_ne hR (by omega) ht hne this.symm
  subst hmt
  have hw := wasN_in k
  obtain ⟨i1, i2, i3⟩ := hI m (by omega)
  rw [h4]
  have e3 : ¬ (vth ns m).st = 3 := by rw [h3]; exact hw.2.2
  rw [if_neg e3] at i3
  refine ⟨e3, by simpa using hl, by rw [vth_set _ hm, if_pos rfl], by omega, by simpa using hl, by split <;> simp [hvt], fun i hi => ?_⟩
  rw [vth_set _ hm]
  by_cases e : i = m
  · subst e
    rw [if_pos rfl]
    refine ⟨i1, i2, ?_⟩
    dsimp only
    by_cases e5 : isN k = 3
    · rw [if_pos e5, if_pos e5]
      have : nth (vt.set i (nth vt i + 1)) i = nth vt i + 1 := by
        simp [nth, List.getD_eq_getElem?_getD, List.getElem?_set, hvt, ht]
      rw [this]
      omega
    · rw [if_neg e5, if_neg e5]
      exact i3
  · rw [if_neg e]
    obtain ⟨j1, j2, j3⟩ := hI i hi
    refine ⟨j1, j2, ?_⟩
    rw [← j3]
    congr 1
    split
    · simp [nth, List.getD_eq_getElem?_getD, List.getElem?_set, Ne.symm e]
    · rfl

theorem etI : ET Try.prog 56 3 (.int .i64 0) 8 := ⟨Try.underlying56, by kernel_rfl, rfl⟩

/-- A count is stored beside the voters. -/
theorem RdV.setBlk {w : World} {a : Option Addr} {n cap g : Nat} {vs : List VQ} {e : TypeId} {xs : List Nat} (h : RdV w a n cap vs) (hb : Blk .i64 e w g xs) (j : Nat) (v : Value) : RdV (w.setCell ⟨g, j, none⟩ v) a n cap vs := by
  refine ⟨h.len, h.le, h.max, h.nil, fun i hi => ?_, h.wf⟩
  obtain ⟨b, off, e1, h1, h2, h3⟩ := h.cell i hi
  have hne : b ≠ g := by
    rintro rfl
    have hk : w.cell? ⟨b, off + i * 3, none⟩ = (nums .i64 xs)[off + i * 3]? := by simp only [World.cell?, hb.blk]; simp
    rw [hk] at h1
    simp only [nums, List.getElem?_map] at h1
    cases hx : xs[off + i * 3]? with
    | none => rw [hx] at h1; simp at h1
    | some x => rw [hx] at h1; simp at h1
  have keep : ∀ (k : Nat) (u : Value), w.cell? ⟨b, k, none⟩ = some u → (w.setCell ⟨g, j, none⟩ v).cell? ⟨b, k, none⟩ = some u := fun k u hu => by
    have := heap_setCell_other w ⟨g, j, none⟩ b v hne
    simp only [World.cell?] at hu ⊢
    rw [this]
    exact hu
  exact ⟨b, off, e1, keep _ _ h1, keep _ _ h2, keep _ _ h3⟩

end Go.Proofs.Ytnjkfjecnicccaa
