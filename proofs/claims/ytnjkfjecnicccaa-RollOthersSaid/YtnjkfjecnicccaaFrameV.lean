/- How an argument that is a roll reads. No condition. -/
import Derived.Test.YtnjkfjecnicccaaFrame
import Derived.Test.YtnjkfjecnicccaaRolPlain
import Derived.Deep.Slices
set_option linter.unusedVariables false
set_option linter.unusedSimpArgs false
namespace Go.Proofs.Ytnjkfjecnicccaa
open Go.ChangeShapes Go.WideShapes Go.ChangeAt Go.RowKit Go.Suf Go.Deep

instance : Inhabited VQ := ⟨zeroVQ⟩

theorem vot_cell {H : Type} {enc : TypeId × Value → H} {W : World} {cs : List Value} {fuel : Nat} {x : DataW H × List MemPlace} (hl : cs.length = 3) (hf : DataW.trod enc Try.prog W 0 (fun _ => true) true fuel 32 cs = some x) :
    ∃ v : VQ, cs = vcells v ∧ VW v := by
  have c9 : Try.prog.cellsOf 9 = 1 := by kernel_rfl
  have c3 : Try.prog.cellsOf 3 = 1 := by kernel_rfl
  have c5 : Try.prog.cellsOf 5 = 1 := by kernel_rfl
  obtain ⟨v0, v1, v2, rfl⟩ : ∃ v0 v1 v2, cs = [v0, v1, v2] := by
    match cs, hl with
    | [v0, v1, v2], _ => exact ⟨v0, v1, v2, rfl⟩
  obtain ⟨xs, n, _, _, _, hlen, hfs⟩ := DataW.trod_struct Try.underlying32 hf
  match xs, hlen with
  | [y0, y1, y2], _ =>
    have h0 := hfs 0 _ rfl
    change DataW.trod _ _ _ _ _ _ _ 9 (List.take (Try.prog.cellsOf 9) [v0, v1, v2]) = some y0 at h0
    rw [c9] at h0
    have h1 := hfs 1 _ rfl
    change DataW.trod _ _ _ _ _ _ _ 3 (List.take (Try.prog.cellsOf 3) [v1, v2]) = some y1 at h1
    rw [c3] at h1
    have h2 := hfs 2 _ rfl
    change DataW.trod _ _ _ _ _ _ _ 5 (List.take (Try.prog.cellsOf 5) [v2]) = some y2 at h2
    rw [c5] at h2
    obtain ⟨nm, e0, _, hnm⟩ := DataW.trod_string Try.underlying9 h0
    obtain ⟨pc, e1, _, w1⟩ := DataW.trod_int Try.underlying3 h1
    obtain ⟨su, e2, _, w2⟩ := DataW.trod_int Try.underlying5 h2
    have b1 := bounds_i64 w1
    obtain ⟨st, rfl, hr⟩ := ofNat_open rfl w2
    simp at e0 e1 e2
    exact ⟨⟨nm, pc, st⟩, by rw [e0, e1, e2]; rfl, b1.1, b1.2, hr⟩

theorem vot_open {H : Type} {enc : TypeId × Value → H} {W : World} {a : Option Addr} {n cap : Nat} {d : DataW H} {p : List MemPlace} (h : DataW.Trod enc Try.prog W 0 (fun _ => true) true 22 (.slice a n cap) d p) : ∃ vs, RdV W a n cap vs := by
  have c32 : Try.prog.cellsOf 32 = 3 := by kernel_rfl
  obtain ⟨fuel, hf⟩ := h
  rcases open_slice Try.underlying22 hf with ⟨hcs, _⟩ | ⟨x, len, c, m, f, D, Pl, hcs, hb, hl, hm, hmm, hd, hx⟩
  · simp [Value.cells] at hcs
    obtain ⟨rfl, rfl, rfl⟩ := hcs
    exact ⟨[], rfl, Nat.le_refl _, Nat.zero_le _, fun _ => rfl, fun i hi => by omega, fun v hv => by simp at hv⟩
  · simp [Value.cells] at hcs
    obtain ⟨rfl, rfl, rfl⟩ := hcs
    simp only [if_true] at hmm
    have hmc : m = cap := by omega
    subst hmc
    rw [c32] at hx
    have each : ∀ r, r < m → ∃ v : VQ, VW v ∧ ∀ j u, (vcells v)[j]? = some u → W.cell? ((x.add (r * 3)).add j) = some u := by
      intro r hr
      obtain ⟨cs', h1, h2⟩ := hx r hr
      obtain ⟨_, hlen, hcell⟩ := World.cells?_some h1
      obtain ⟨v, rfl, hw⟩ := vot_cell hlen h2
      refine ⟨v, hw, fun j u hu => ?_⟩
      rw [hcell j (by have := (List.getElem?_eq_some_iff.1 hu).1; simpa [vcells] using this)]
      exact hu
    obtain ⟨y, hy⟩ := choose_lt each
    by_cases hn : n = 0
    · subst hn
      exact ⟨[], rfl, Nat.zero_le _, hm, fun hh => by simp at hh, fun i hi => by omega, fun v hv => by simp at hv⟩
    · obtain ⟨b, off, spot⟩ := x
      have hspot : spot = none := by
        have := World.cell?_spot ((hy 0 (by omega)).2 0 _ rfl)
        simpa [Addr.add] using this
      subst hspot
      have hv : ∀ i, i < n → vth ((List.range n).map y) i = y i := fun i hi => by simp [vth, hi]
      refine ⟨(List.range n).map y, by simp, hl, hm, fun hh => by simp at hh, fun i hi => ⟨b, off, rfl, ?_⟩, fun v hv' => ?_⟩
      · have hc := (hy i (by omega)).2
        have hadd : ∀ j, ((⟨b, off, none⟩ : Addr).add (i * 3)).add j = ⟨b, off + i * 3 + j, none⟩ := fun j => by
          have h1 : ∀ k o, (⟨b, o, none⟩ : Addr).add k = ⟨b, o + k, none⟩ := fun k o => by unfold Addr.add; split <;> simp_all
          rw [h1, h1]
        rw [hv i hi]
        have e0 := hc 0 _ rfl
        have e1 := hc 1 _ rfl
        have e2 := hc 2 _ rfl
        rw [hadd] at e0 e1 e2
        exact ⟨e0, e1, e2⟩
      · rw [List.mem_map] at hv'
        obtain ⟨r, hr, rfl⟩ := hv'
        exact (hy r (by have := List.mem_range.1 hr; omega)).1

end Go.Proofs.Ytnjkfjecnicccaa
