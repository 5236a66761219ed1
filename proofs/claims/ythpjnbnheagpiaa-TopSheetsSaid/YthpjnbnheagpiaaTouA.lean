/- Plain laws of TopSheets: the records and the ballots so far. No program in sight. -/
import Derived.Test.YthpjnbnheagpiaaTopZ
namespace Go.Proofs.Ythpjnbnheagpiaa
open Go.RowKit Go.Suf
set_option linter.unusedVariables false
set_option linter.unusedSimpArgs false

/-- The names of the batches. -/
def nmT (t : Nat) : ByteArray := if t = 0 then ⟨#[97]⟩ else if t = 1 then ⟨#[98]⟩ else ⟨#[99]⟩
theorem nmT_odd (t : Nat) : oddS (nmT t) = false := by
  unfold nmT
  split
  · decide
  split
  · decide
  · decide
def idxT (s : ByteArray) : Int := if s = nmT 0 then 0 else if s = nmT 1 then 1 else 2
theorem idx_nmT {t : Nat} (h : t < 3) : idxT (nmT t) = (t : Int) := by
  have : t = 0 ∨ t = 1 ∨ t = 2 := by omega
  rcases this with rfl | rfl | rfl <;> decide
theorem nmT_inj {s t : Nat} (hs : s < 3) (ht : t < 3) (h : nmT s = nmT t) : s = t := by
  have h1 := idx_nmT hs
  rw [h, idx_nmT ht] at h1
  omega
theorem plc_neg {l : List CQ} {nm : ByteArray} (h : plcI l nm = -1) : ∀ x ∈ l, x.nm ≠ nm := fun x hx e => by
  obtain ⟨i, hi, e2⟩ := List.getElem_of_mem hx
  have h1 := fstI_ge (fun i => eqS (cth l i).nm nm) l.length
  have h2 : (List.range l.length).any (fun i => eqS (cth l i).nm nm) = true := List.any_eq_true.2 ⟨i, List.mem_range.2 hi, by
    rw [cth_of (List.getElem?_eq_getElem hi), e2]
    exact eqS_iff.2 e⟩
  rw [h2] at h1
  unfold plcI at h
  rw [h] at h1
  simp at h1
theorem plc_cases (l : List CQ) (nm : ByteArray) : plcI l nm = -1 ∨ ∃ i x, plcI l nm = (i : Nat) ∧ l[i]? = some x ∧ x.nm = nm := by
  rcases fstI_neg (fun i => eqS (cth l i).nm nm) l.length with h | ⟨i, hi, h1, h2⟩
  · exact .inl h
  · have h3 := List.getElem?_eq_getElem hi
    rw [cth_of h3] at h2
    exact .inr ⟨i, _, h1, h3, eqS_iff.1 h2⟩
/-- The records and the ballots after i ballots. -/
structure RecI (kd : Nat) (cn : Int) (i : Nat) (rc : List CQ) (own : List BQ) : Prop where
  recw : RecW kd cn rc
  names : ∀ x ∈ rc, ∃ t, t < 3 ∧ x.nm = nmT t ∧ x.bs.length ≤ (i + 2 - t) / 3
  perm : (allB rc).Perm (own.map BQ.ms)
  fit : FitL kd cn own
  len : own.length ≤ i
theorem RecI.zero (kd : Nat) (cn : Int) : RecI kd cn 0 [] [] :=
  ⟨⟨Nat.zero_le _, fun x h => by simp at h, List.nodup_nil⟩, fun x h => by simp at h, List.Perm.refl _, fun x h => by simp at h, Nat.le_refl _⟩
theorem RecI.skip {kd : Nat} {cn : Int} {i : Nat} {rc : List CQ} {own : List BQ} (h : RecI kd cn i rc own) : RecI kd cn (i + 1) rc own :=
  ⟨h.recw, fun x hx => by
    obtain ⟨t, h1, h2, h3⟩ := h.names x hx
    exact ⟨t, h1, h2, by omega⟩, h.perm, h.fit, Nat.le_succ_of_le h.len⟩
theorem RecI.idx {kd : Nat} {cn : Int} {i : Nat} {rc : List CQ} {own : List BQ} (h : RecI kd cn i rc own) : (rc.map fun x => idxT x.nm).Nodup ∧ ∀ z ∈ rc.map fun x => idxT x.nm, 0 ≤ z ∧ z < ((3 : Nat) : Int) := by
  have hd := h.recw.dist
  have hn := h.names
  clear h
  refine ⟨?_, fun z hz => ?_⟩
  · rw [List.Nodup, List.pairwise_map] at hd ⊢
    refine List.Pairwise.imp_of_mem ?_ hd
    intro a b ha hb hne e
    obtain ⟨s, hs, e1, _⟩ := hn a ha
    obtain ⟨t, ht, e2, _⟩ := hn b hb
    rw [e1, e2, idx_nmT hs, idx_nmT ht] at e
    have : s = t := by omega
    subst this
    exact hne (e1.trans e2.symm)
  · obtain ⟨x, hx, rfl⟩ := List.mem_map.1 hz
    obtain ⟨t, ht, e1, _⟩ := hn x hx
    rw [e1, idx_nmT ht]
    omega
theorem RecI.room {kd : Nat} {cn : Int} {i : Nat} {rc : List CQ} {own : List BQ} (h : RecI kd cn i rc own) {t : Nat} (ht : t < 3) (hp : plcI rc (nmT t) = -1) : rc.length ≤ 2 := by
  obtain ⟨h1, h2⟩ := h.idx
  have h3 := nodup_len 3 ((t : Int) :: rc.map fun x => idxT x.nm) (List.nodup_cons.2 ⟨fun hm => by
    obtain ⟨x, hx, e⟩ := List.mem_map.1 hm
    obtain ⟨s, hs, e1, _⟩ := h.names x hx
    rw [e1, idx_nmT hs] at e
    have : s = t := by omega
    subst this
    exact plc_neg hp x hx e1, h1⟩) (fun z hz => by
    rcases List.mem_cons.1 hz with rfl | hz
    · omega
    · exact h2 z hz)
  simp at h3
  omega
theorem RecI.small {kd : Nat} {cn : Int} {i : Nat} {rc : List CQ} {own : List BQ} (h : RecI kd cn i rc own) (hi : i ≤ 100) : ∀ x ∈ rc, x.bs.length ≤ 63 := fun x hx => by
  obtain ⟨t, h1, h2, h3⟩ := h.names x hx
  omega
theorem allB_snoc (l : List CQ) (nm : ByteArray) (b : BQ) : allB (l ++ [⟨nm, [b]⟩]) = allB l ++ [b.ms] := by simp [allB]
theorem allB_set : ∀ (l : List CQ) (i : Nat) (x : CQ) (b : BQ), l[i]? = some x → (allB (l.set i ⟨x.nm, x.bs ++ [b]⟩)).Perm (allB l ++ [b.ms])
  | [], i, x, b, h => by simp at h
  | y :: l, 0, x, b, h => by
    simp at h
    subst h
    show ((y.bs ++ [b]).map BQ.ms ++ allB l).Perm (y.bs.map BQ.ms ++ allB l ++ [b.ms])
    rw [List.map_append, List.append_assoc, List.append_assoc]
    exact List.Perm.append_left _ (List.perm_append_comm)
  | y :: l, i + 1, x, b, h => by
    show (y.bs.map BQ.ms ++ allB (l.set i ⟨x.nm, x.bs ++ [b]⟩)).Perm (y.bs.map BQ.ms ++ allB l ++ [b.ms])
    rw [List.append_assoc]
    exact List.Perm.append_left _ (allB_set l i x b (by simpa using h))
theorem RecI.step {kd : Nat} {cn : Int} {i : Nat} {rc : List CQ} {own : List BQ} (h : RecI kd cn i rc own) (hi : i < 100) {t : Nat} (ht : t = i % 3) {ms : List Int} (hb : ballC kd ms cn = 0) : RecI kd cn (i + 1) (putC rc (nmT t) ⟨kd, ms⟩) (own ++ [⟨kd, ms⟩]) := by
  have ht3 : t < 3 := by omega
  have hfit : FitL kd cn [⟨kd, ms⟩] := fun b hb2 => by
    rw [List.mem_singleton.1 hb2]
    exact ⟨rfl, hb⟩
  have hown : FitL kd cn (own ++ [⟨kd, ms⟩]) := fun b hb2 => by
    rcases List.mem_append.1 hb2 with h1 | h1
    · exact h.fit b h1
    · exact hfit b h1
  have hlen : (own ++ [(⟨kd, ms⟩ : BQ)]).length ≤ i + 1 := by have := h.len; simp; omega
  rcases plc_cases rc (nmT t) with hp | ⟨j, x, hp, hx, hnm⟩
  · have e : putC rc (nmT t) ⟨kd, ms⟩ = rc ++ [⟨nmT t, [⟨kd, ms⟩]⟩] := by unfold putC; rw [if_pos hp]
    rw [e]
    have hroom := h.room ht3 hp
    refine ⟨⟨by simp; omega, fun y hy => ?_, ?_⟩, fun y hy => ?_, ?_, hown, hlen⟩
    · rcases List.mem_append.1 hy with h1 | h1
      · exact h.recw.ok y h1
      · rw [List.mem_singleton.1 h1]
        exact ⟨nmT_odd t, by simp, hfit⟩
    · rw [List.map_append, List.nodup_append]
      refine ⟨h.recw.dist, by simp, fun a ha b hb2 e2 => ?_⟩
      obtain ⟨y, hy, rfl⟩ := List.mem_map.1 ha
      simp at hb2
      subst hb2
      exact plc_neg hp y hy e2
    · rcases List.mem_append.1 hy with h1 | h1
      · exact h.skip.names y h1
      · rw [List.mem_singleton.1 h1]
        exact ⟨t, ht3, rfl, by simp; omega⟩
    · rw [allB_snoc, List.map_append]
      exact h.perm.append_right _
  · rw [putC_at hp hx]
    have hmem := List.mem_of_getElem? hx
    obtain ⟨o1, o2, o3⟩ := h.recw.ok x hmem
    have hx63 := h.small (by omega) x hmem
    have mem' : ∀ y ∈ rc.set j ⟨x.nm, x.bs ++ [⟨kd, ms⟩]⟩, y ∈ rc ∨ y = ⟨x.nm, x.bs ++ [⟨kd, ms⟩]⟩ := fun y hy => List.mem_or_eq_of_mem_set hy
    refine ⟨⟨by rw [List.length_set]; exact h.recw.len, fun y hy => ?_, ?_⟩, fun y hy => ?_, ?_, hown, hlen⟩
    · rcases mem' y hy with h1 | rfl
      · exact h.recw.ok y h1
      · refine ⟨o1, by simp; omega, fun b hb2 => ?_⟩
        rcases List.mem_append.1 hb2 with h1 | h1
        · exact o3 b h1
        · exact hfit b h1
    · have e : (rc.set j ⟨x.nm, x.bs ++ [⟨kd, ms⟩]⟩).map CQ.nm = rc.map CQ.nm := by
        rw [List.map_set]
        apply List.ext_getElem?
        intro m
        by_cases hm : j = m
        · subst hm
          obtain ⟨hj, e3⟩ := List.getElem?_eq_some_iff.1 hx
          rw [List.getElem?_set_self (by simpa using hj), List.getElem?_map, hx]
          rfl
        · rw [List.getElem?_set_ne hm]
      rw [e]
      exact h.recw.dist
    · rcases mem' y hy with h1 | rfl
      · exact h.skip.names y h1
      · obtain ⟨s, hs, e1, e2⟩ := h.names x hmem
        have : s = t := nmT_inj hs ht3 (e1.symm.trans hnm)
        subst this
        refine ⟨s, hs, e1, ?_⟩
        simp
        omega
    · rw [List.map_append]
      exact (allB_set rc j x _ hx).trans (h.perm.append_right _)
theorem RecI.rows {kd : Nat} {cn : Int} {i : Nat} {rc : List CQ} {own : List BQ} (h : RecI kd cn i rc own) (hi : i ≤ 100) : rowsL (allB rc) = rowsL (own.map BQ.ms) := by
  refine rowsL_perm (kd := kd) (cn := cn) (fun m hm => ?_) ?_ h.perm
  · obtain ⟨b, hb, e⟩ := List.mem_map.1 (h.perm.mem_iff.1 hm)
    rw [← e]
    exact (h.fit b hb).2
  · rw [h.perm.length_eq, List.length_map]
    have := h.len
    omega
theorem fillT {nm : ByteArray} {ss : List ByteArray} {seats : Int} {rule kd : Nat} {ms : List Int} {fx : List Nat} (h : fillC nm ss seats rule kd ms = (fx, 0)) : checkC nm ss seats rule = 0 ∧ fitsB ss rule kd ms = true ∧ fx = fillI kd ss.length (boxesN ss rule) ms ms.length := by
  unfold fillC at h
  by_cases h1 : checkC nm ss seats rule = 0
  · rw [if_pos h1] at h
    by_cases h2 : fitsB ss rule kd ms = true
    · rw [if_pos h2] at h
      exact ⟨h1, h2, (congrArg Prod.fst h).symm⟩
    · rw [if_neg h2] at h
      exact absurd (show (8 : Int) = 0 from congrArg Prod.snd h) (by decide)
  · rw [if_neg h1] at h
    exact absurd (congrArg Prod.snd h) h1
/-- What is filled in is read back, and it is a valid ballot of the contest's kind. -/
theorem fill_read {nm : ByteArray} {ss : List ByteArray} {seats : Int} {rule kd : Nat} {ms : List Int} {fx : List Nat} {p : PQ} (h : fillC nm ss seats rule kd ms = (fx, 0)) : fx.length ≤ 110 ∧ kd = kindN rule ∧ ballC kd ms (ss.length : Nat) = 0 ∧
    readR nm ss seats rule p fx [] = if mayP p = true then (⟨kd, ms, 0, []⟩, 0) else (⟨0, [], 0, []⟩, 2) := by
  obtain ⟨h1, h2, rfl⟩ := fillT h
  obtain ⟨g1, g2, g3⟩ := chk_rule h1
  have h3 := h2
  unfold fitsB at h3
  simp only [Bool.and_eq_true, decide_eq_true_eq] at h3
  refine ⟨by rw [fillI_len]; exact boxes_le g1, h3.1, ?_, readR_back h1 g2 g1 h2⟩
  unfold ballC
  rw [if_pos ⟨by omega, by omega⟩, if_pos h3.2.1]

end Go.Proofs.Ythpjnbnheagpiaa
/- TopSheets: Put at the place that the name has; the ballots of the law's own. Conditions: as the law lets them be. -/
namespace Go.Proofs.Ythpjnbnheagpiaa
open Go.RowKit Go.Suf
set_option linter.unusedVariables false
set_option linter.unusedSimpArgs false

theorem Put_any (w : World) (cn : Int) (hc1 : 1 ≤ cn) (hc2 : cn ≤ 10) (kd : Nat) (hk1 : 1 ≤ kd) (hk2 : kd ≤ 3) {a_l : Option Addr} {n_l c_l : Nat} {l : List CQ} (h_l : RdC w a_l n_l c_l l) (hW : RecW kd cn l) (name : ByteArray) (hod : oddS name = false) {a_x : Option Addr} {n_x c_x : Nat} {ms : List Int} (h_x : RdI w a_x n_x c_x ms) (hbf : ballC kd ms cn = 0)
    (hr : plcI l name = -1 → l.length ≤ 2) (h63 : ∀ x ∈ l, x.bs.length ≤ 63) :
    Calls Try.prog 10 #[.slice a_l n_l c_l, .int .i64 cn, .int .u8 ((kd : Nat) : Int), .string name, .agg #[.int .u8 ((kd : Nat) : Int), .slice a_x n_x c_x]] w (RetPC w (putC l name ⟨kd, ms⟩)) := by
  rcases plc_cases l name with hp | ⟨i, x, hp, hx, _⟩
  · exact PutNew_any w cn hc1 hc2 kd hk1 hk2 h_l hW name hod h_x hbf (Lib.hid hp) (by rw [← h_l.len]; exact hr hp)
  · exact PutAt_any w cn hc1 hc2 kd hk1 hk2 h_l hW name hod h_x hbf (Lib.hid hp) (by rw [← h_l.len]; exact (List.getElem?_eq_some_iff.1 hx).1) fun y hy => h63 y (List.mem_of_getElem? hy)
/-- Ballots that lie as they lay in w0, in a row of the call's own. -/
def OwnL (w0 w : World) (a : Option Addr) (n c : Nat) (own : List BQ) : Prop := own.length = n ∧ ∃ ps, OwX 37 w0.heap.size w a n c ps ∧ ∀ (j : Nat) x p, own[j]? = some x → ps[j]? = some p → balE w0 x p.u p.v
theorem OwnL.nil (w0 w : World) : OwnL w0 w none 0 0 [] := ⟨rfl, [], OwX.nil _ _ _, fun j x p h => by simp at h⟩
theorem OwnL.below {w0 w w' : World} {a : Option Addr} {n c : Nat} {own : List BQ} (h : OwnL w0 w a n c own) (hb : Below w.heap.size w w') : OwnL w0 w' a n c own := by
  obtain ⟨h1, ps, h2, h3⟩ := h
  exact ⟨h1, ps, h2.below hb, h3⟩
theorem OwnL.rd {w0 w : World} {a : Option Addr} {n c : Nat} {own : List BQ} (h : OwnL w0 w a n c own) (hb : Below w0.heap.size w0 w) : RdQ w a n c own := by
  obtain ⟨h1, ps, h2, h3⟩ := h
  exact (x_ow2 (F := balE w0) h2 h1 h3).rd fun x u v h => balE_lasts h hb
theorem OwnL.snoc {w0 w : World} {a' : Option Addr} {n c' : Nat} {own : List BQ} {ps : List PV} {p : PV} {y : BQ} (hl : own.length = n) (hX : ps.length = n) (hF : ∀ (j : Nat) x p, own[j]? = some x → ps[j]? = some p → balE w0 x p.u p.v) (hX' : OwX 37 w0.heap.size w a' (n + 1) c' (ps ++ [p])) (hy : balE w0 y p.u p.v) : OwnL w0 w a' (n + 1) c' (own ++ [y]) :=
  ⟨by simp [hl], _, hX', pt_snoc (F := fun x p => balE w0 x p.u p.v) (F' := fun x p => balE w0 x p.u p.v) hF (by rw [hl, hX]) (fun _ _ h => h) hy⟩
/-- Records that were made behind the ballots' row are not in its block. -/
theorem OwC.beside {w0 w w1 w' : World} {a b : Option Addr} {n c m d : Nat} {l : List CQ} {own : List BQ} (h : OwC w.heap.size w1 a n c l) (ho : OwnL w0 w b m d own) (hk : KeepB b w1 w') : OwC w.heap.size w' a n c l := by
  obtain ⟨_, ps, h2, _⟩ := ho
  exact h.hi fun k h3 h4 => hk k h4 fun p e1 e2 => by
    have := (h2.typed p e1).2.1
    omega
theorem wide_own {w : World} {base : Nat} {a : Option Addr} {n c : Nat} {fx : List Nat} {g : Nat} {t : TypeId} {cs : Array Value} (h : Ow .u8 5 base w a n c fx) (hg : w.heap[g]? = some (.cells cs t (0, 0))) (hne : t ≠ 5) (cs' : Array Value) : Ow .u8 5 base (w.setRow g cs') a n c fx := ⟨h.len, own_setRow h.own hg hne cs', h.bd⟩
theorem row_nmT (w w1 : World) (g : Nat) {t : Nat} (ht : t < 3) (h : PRow 9 w w1 g #[.string ⟨#[97]⟩, .string ⟨#[98]⟩, .string ⟨#[99]⟩]) : w1.cell? ⟨g, t, none⟩ = some (.string (nmT t)) := by
  refine h.cell t _ ?_
  have : t = 0 ∨ t = 1 ∨ t = 2 := by omega
  rcases this with rfl | rfl | rfl <;> rfl

end Go.Proofs.Ythpjnbnheagpiaa
