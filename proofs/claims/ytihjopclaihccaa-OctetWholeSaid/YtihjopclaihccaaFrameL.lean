/- How an argument that is a list of byte slices reads. No condition. -/
import Derived.Test.YtihjopclaihccaaFrame
import Derived.Test.YtihjopclaihccaaOctetD
import Derived.Deep.Slices
namespace Go.Proofs.Ytihjopclaihccaa
open Go.ChangeShapes Go.WideShapes Go.ChangeAt Go.RowKit Go.Suf Go.Deep

theorem rdl_open {H : Type} {enc : TypeId × Value → H} {P : Program} {W : World} {t e q : TypeId} {a : Option Addr} {n cap : Nat} {d : DataW H} {p : List MemPlace} (ht : P.underlying t = some (.slice e)) (he : P.underlying e = some (.slice q)) (hq : P.underlying q = some (.int .u8)) (ce : P.cellsOf e = 1) (cq : P.cellsOf q = 1)
    (h : DataW.Trod enc P W 0 (fun _ => true) true t (.slice a n cap) d p) : ∃ xss, RdL W a n cap xss := by
  obtain ⟨fuel, hf⟩ := h
  rcases open_slice1 ht ce hf with ⟨hcs, _⟩ | ⟨x, len, c, m, f, V, D, Pl, hcs, hb, hl, hm, hmm, hd, hx⟩
  · simp [Value.cells] at hcs
    obtain ⟨rfl, rfl, rfl⟩ := hcs
    exact ⟨[], rfl, [], rfl, Sl.empty _ _ _ (Nat.zero_le _) (fun _ => rfl), fun i hi => by omega⟩
  · simp [Value.cells] at hcs
    obtain ⟨rfl, rfl, rfl⟩ := hcs
    simp only [if_true] at hmm
    have hmc : m = cap := by omega
    subst hmc
    have each : ∀ r, r < m → ∃ y : Option Addr × Nat × Nat × List Nat, V r = .slice y.1 y.2.1 y.2.2.1 ∧ Rd .u8 W y.1 y.2.1 y.2.2.1 y.2.2.2 := by
      intro r hr
      obtain ⟨a1, n1, c1, ys, hv, hrd⟩ := rd_cell he hq cq rfl (hx r hr).2
      exact ⟨(a1, n1, c1, ys), hv, hrd⟩
    obtain ⟨y, hy⟩ := choose_lt each
    by_cases hn : n = 0
    · subst hn
      exact ⟨[], rfl, [], rfl, Sl.empty _ _ _ hm (fun hh => by simp at hh), fun i hi => by omega⟩
    · obtain ⟨b, off, spot⟩ := x
      have hspot : spot = none := by
        have := World.cell?_spot (hx 0 (by omega)).1
        simpa [Addr.add] using this
      subst hspot
      refine ⟨(List.range n).map fun r => (y r).2.2.2, by simp, (List.range n).map V, by simp, ⟨by simpa using hl, hm, fun hh => by simp at hh, fun i v hv => ?_, fun u hu => ?_⟩, fun i hi => ?_⟩
      · have hi : i < n := by
          rcases Nat.lt_or_ge i n with h | h
          · exact h
          · rw [List.getElem?_eq_none (by simpa using h)] at hv; simp at hv
        simp [hi] at hv
        subst hv
        refine ⟨b, off, rfl, ?_⟩
        have hadd : (⟨b, off, none⟩ : Addr).add i = ⟨b, off + i, none⟩ := by unfold Addr.add; split <;> simp_all
        have := (hx i (by omega)).1
        rwa [hadd] at this
      · rw [List.mem_map] at hu
        obtain ⟨r, hr, rfl⟩ := hu
        rw [(hy r (by have := List.mem_range.1 hr; omega)).1]
        rfl
      · obtain ⟨h1, h2⟩ := hy i (by omega)
        refine ⟨_, _, _, by simp [hi]; exact h1, ?_⟩
        simpa [lth, hi] using h2
end Go.Proofs.Ytihjopclaihccaa
