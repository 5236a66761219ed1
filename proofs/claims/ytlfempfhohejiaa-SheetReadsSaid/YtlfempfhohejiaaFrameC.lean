/- How an argument that is a contest reads. No condition. -/
import Derived.Test.YtlfempfhohejiaaFrame
import Derived.Test.YtlfempfhohejiaaStr
import Derived.Test.YtlfempfhohejiaaRows
import Derived.Deep.Strs
set_option linter.unusedVariables false
set_option linter.unusedSimpArgs false
namespace Go.Suf
open Go.ChangeShapes Go.WideShapes Go.ChangeAt Go.RowKit Go.Deep

/-- A slice of strings that came in. -/
theorem rdS_cell {H : Type} {enc : TypeId × Value → H} {P : Program} {W : World} {t e : TypeId} {v : Value} {fuel : Nat} {x : DataW H × List MemPlace} (ht : P.underlying t = some (.slice e)) (he : P.underlying e = some .string) (hc : P.cellsOf e = 1)
    (hf : DataW.trod enc P W 0 (fun _ => true) true fuel t [v] = some x) : ∃ a n cap ss, v = .slice a n cap ∧ RdS W a n cap ss ∧ ∀ s ∈ ss, s.size ≤ maxLen := by
  rcases open_strs ht he hc hf with ⟨hcs, _⟩ | ⟨ad, len, cap, m, Sx, hcs, hb, hl, hm, hmm, _, hx⟩
  · simp at hcs
    exact ⟨none, 0, 0, [], hcs, ⟨rfl, Sl.empty _ _ _ (Nat.zero_le _) (fun _ => rfl)⟩, fun s hs => by simp at hs⟩
  · simp at hcs
    simp only [if_true] at hmm
    have hmc : m = cap := by omega
    subst hmc
    refine ⟨some ad, len, m, (List.range len).map Sx, hcs, ⟨by simp, ⟨by simpa using hl, hm, fun h => by simp at h, fun i c hcc => ?_, strs_one _⟩⟩, fun s hs => ?_⟩
    · have hi : i < len := by
        rcases Nat.lt_or_ge i len with h | h
        · exact h
        · rw [List.getElem?_eq_none (by simpa using h)] at hcc; simp at hcc
      simp [strs, hi] at hcc
      subst hcc
      have h1 := (hx i (by omega)).1
      obtain ⟨b, off, spot⟩ := ad
      have hspot : spot = none := by
        have := World.cell?_spot (hx 0 (by omega)).1
        simpa [Addr.add] using this
      subst hspot
      have hadd : (⟨b, off, none⟩ : Addr).add i = ⟨b, off + i, none⟩ := by unfold Addr.add; split <;> simp_all
      rw [hadd] at h1
      exact ⟨b, off, rfl, h1⟩
    · rw [List.mem_map] at hs
      obtain ⟨i, hi, rfl⟩ := hs
      exact (hx i (by have := List.mem_range.1 hi; omega)).2
end Go.Suf
namespace Go.Proofs.Ytlfempfhohejiaa
open Go.ChangeShapes Go.WideShapes Go.ChangeAt Go.RowKit Go.Deep Go.Suf

set_option maxRecDepth 100000 in
theorem con_open {H : Type} {enc : TypeId × Value → H} {W : World} {r : Reach} {b0 : Nat} {v : Value} {d : DataW H} {p : List MemPlace} (hval : Value.okWide Try.prog W r b0 24 v) (h : DataW.Trod enc Try.prog W 0 (fun _ => true) true 24 v d p) :
    ∃ nm a n cap ss seats rule, v = .agg #[.string nm, .slice a n cap, .int .i64 seats, .int .u8 ((rule : Nat) : Int)] ∧ RdS W a n cap ss ∧ (∀ s ∈ ss, s.size ≤ maxLen) ∧ nm.size ≤ maxLen ∧ -9223372036854775808 ≤ seats ∧ seats ≤ 9223372036854775807 ∧ rule < 256 := by
  obtain ⟨cs, rfl, hsz⟩ := okWide_struct Try.underlying24 hval
  have h4 : Try.prog.cellsOf 24 = 4 := by kernel_rfl
  have c9 : Try.prog.cellsOf 9 = 1 := by kernel_rfl
  have c38 : Try.prog.cellsOf 22 = 1 := by kernel_rfl
  have c3 : Try.prog.cellsOf 3 = 1 := by kernel_rfl
  have c5 : Try.prog.cellsOf 5 = 1 := by kernel_rfl
  rw [h4] at hsz
  obtain ⟨v0, v1, v2, v3, rfl⟩ : ∃ v0 v1 v2 v3, cs = #[v0, v1, v2, v3] := by
    obtain ⟨l⟩ := cs
    match l, hsz with
    | [v0, v1, v2, v3], _ => exact ⟨v0, v1, v2, v3, rfl⟩
  obtain ⟨fuel, hf⟩ := h
  obtain ⟨xs, n, _, _, _, hlen, hfs⟩ := DataW.trod_struct Try.underlying24 hf
  match xs, hlen with
  | [y0, y1, y2, y3], _ =>
    have h0 := hfs 0 _ rfl
    change DataW.trod _ _ _ _ _ _ _ 9 (List.take (Try.prog.cellsOf 9) [v0, v1, v2, v3]) = some y0 at h0
    rw [c9] at h0
    have h1 := hfs 1 _ rfl
    change DataW.trod _ _ _ _ _ _ _ 22 (List.take (Try.prog.cellsOf 22) [v1, v2, v3]) = some y1 at h1
    rw [c38] at h1
    have h2 := hfs 2 _ rfl
    change DataW.trod _ _ _ _ _ _ _ 3 (List.take (Try.prog.cellsOf 3) [v2, v3]) = some y2 at h2
    rw [c3] at h2
    have h3 := hfs 3 _ rfl
    change DataW.trod _ _ _ _ _ _ _ 5 (List.take (Try.prog.cellsOf 5) [v3]) = some y3 at h3
    rw [c5] at h3
    obtain ⟨nm, e0, _, hnm⟩ := DataW.trod_string Try.underlying9 h0
    obtain ⟨a, m, cap, ss, e1, hss, hle⟩ := rdS_cell Try.underlying22 Try.underlying9 c38 h1
    obtain ⟨seats, e2, _, w2⟩ := DataW.trod_int Try.underlying3 h2
    obtain ⟨ru, e3, _, w3⟩ := DataW.trod_int Try.underlying5 h3
    have b2 := bounds_i64 w2
    obtain ⟨rule, rfl, hr⟩ := ofNat_open rfl w3
    simp at e0 e2 e3
    exact ⟨nm, a, m, cap, ss, seats, rule, by rw [e0, e1, e2, e3], hss, hle, hnm, b2.1, b2.2, hr⟩

end Go.Proofs.Ytlfempfhohejiaa
