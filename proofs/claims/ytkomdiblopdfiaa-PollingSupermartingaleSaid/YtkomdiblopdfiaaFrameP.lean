/- How an argument that is a state of polling reads, an array of three integers, and a slice of integers. No condition. -/
import Derived.Test.YtkomdiblopdfiaaFrame
import Derived.Test.YtkomdiblopdfiaaPolA
import Derived.Laws.IdiomArrays
namespace Go.Suf
open Go.ChangeShapes Go.WideShapes Go.ChangeAt Go.RowKit
set_option linter.unusedVariables false
set_option linter.unusedSimpArgs false

/-- A slice of int that came in. -/
theorem rdI_open {H : Type} {enc : TypeId × Value → H} {P : Program} {W : World} {t e : TypeId} {a : Option Addr} {n cap : Nat} {d : DataW H} {p : List MemPlace} (ht : P.underlying t = some (.slice e)) (he : P.underlying e = some (.int .i64)) (hc : P.cellsOf e = 1)
    (h : DataW.Trod enc P W 0 (fun _ => true) true t (.slice a n cap) d p) : ∃ xs, RdI W a n cap xs := by
  obtain ⟨fuel, hf⟩ := h
  rcases open_ints ht he hc hf with ⟨hcs, _⟩ | ⟨x, l, c, zs, hcs, _, hl, hm, hz, _, hcell, hwz⟩
  · simp [Value.cells] at hcs
    obtain ⟨rfl, rfl, rfl⟩ := hcs
    exact ⟨[], RdI.nil _⟩
  · simp [Value.cells] at hcs
    obtain ⟨rfl, rfl, rfl⟩ := hcs
    have hz' : zs.length = cap := by simpa using hz
    have hlen : (zs.take n).length = n := by simp; omega
    refine ⟨zs.take n, hlen, ⟨by rw [intsV_size]; simp; omega, hm, fun e => by simp at e, fun i v hv => ?_, intsV_one _⟩, fun y hy => ?_⟩
    · have hi : i < n := by
        rcases Nat.lt_or_ge i n with h | h
        · exact h
        · rw [intsV_get, List.getElem?_eq_none (by omega)] at hv; simp at hv
      have hcl := hcell i (by omega)
      rw [intsV_get, List.getElem?_take_of_lt hi, List.getElem?_eq_getElem (by omega)] at hv
      simp only [Option.map_some, Option.some.injEq] at hv
      subst hv
      obtain ⟨b, off, spot⟩ := x
      have hspot : spot = none := by
        have := World.cell?_spot (hcell 0 (by omega))
        simpa [Addr.add] using this
      subst hspot
      refine ⟨b, off, rfl, ?_⟩
      have hadd : (⟨b, off, none⟩ : Addr).add i = ⟨b, off + i, none⟩ := by unfold Addr.add; split <;> simp_all
      rw [hadd] at hcl
      rw [hcl]
      simp [show i < zs.length by omega]
    · have hb := bounds_i64 (hwz y (List.mem_of_mem_take hy))
      exact hb
end Go.Suf
namespace Go.Proofs.Ytkomdiblopdfiaa
open Go.ChangeShapes Go.WideShapes Go.ChangeAt Go.RowKit Go.Suf
set_option linter.unusedVariables false
set_option linter.unusedSimpArgs false

def wide (z : Int) : Prop := -9223372036854775808 ≤ z ∧ z ≤ 9223372036854775807

set_option maxRecDepth 100000 in
theorem arr3_cells {H : Type} {enc : TypeId × Value → H} {W : World} {v0 v1 v2 : Value} {fuel : Nat} {x : DataW H × List MemPlace} (hf : DataW.trod enc Try.prog W 0 (fun _ => true) true fuel 22 [v0, v1, v2] = some x) :
    ∃ z0 z1 z2, v0 = .int .i64 z0 ∧ v1 = .int .i64 z1 ∧ v2 = .int .i64 z2 ∧ wide z0 ∧ wide z1 ∧ wide z2 := by
  have cI : Try.prog.cellsOf 3 = 1 := by kernel_rfl
  obtain ⟨y0, y1, y2, n, _, h0, h1, h2⟩ := trod_array3 Try.underlying22 cI hf
  obtain ⟨z0, e0, _, w0⟩ := DataW.trod_int Try.underlying3 h0
  obtain ⟨z1, e1, _, w1⟩ := DataW.trod_int Try.underlying3 h1
  obtain ⟨z2, e2, _, w2⟩ := DataW.trod_int Try.underlying3 h2
  simp at e0 e1 e2
  exact ⟨z0, z1, z2, e0, e1, e2, bounds_i64 w0, bounds_i64 w1, bounds_i64 w2⟩

set_option maxRecDepth 100000 in
theorem arr3_open {H : Type} {enc : TypeId × Value → H} {W : World} {r : Reach} {b0 : Nat} {v : Value} {d : DataW H} {p : List MemPlace} (hval : Value.okWide Try.prog W r b0 22 v) (h : DataW.Trod enc Try.prog W 0 (fun _ => true) true 22 v d p) :
    ∃ z0 z1 z2, v = .agg #[.int .i64 z0, .int .i64 z1, .int .i64 z2] ∧ wide z0 ∧ wide z1 ∧ wide z2 := by
  obtain ⟨cs, rfl, hsz⟩ : ∃ cs, v = .agg cs ∧ cs.size = Try.prog.cellsOf 22 := by
    simp only [Value.okWide, Try.underlying22] at hval
    obtain ⟨cs, h1, h2, _⟩ := hval
    exact ⟨cs, h1, h2⟩
  have h3 : Try.prog.cellsOf 22 = 3 := by kernel_rfl
  rw [h3] at hsz
  obtain ⟨v0, v1, v2, rfl⟩ : ∃ v0 v1 v2, cs = #[v0, v1, v2] := by
    obtain ⟨l⟩ := cs
    match l, hsz with
    | [v0, v1, v2], _ => exact ⟨v0, v1, v2, rfl⟩
  obtain ⟨fuel, hf⟩ := h
  obtain ⟨z0, z1, z2, rfl, rfl, rfl, w0, w1, w2⟩ := arr3_cells hf
  exact ⟨z0, z1, z2, rfl, w0, w1, w2⟩

set_option maxRecDepth 100000 in
theorem pol_open {H : Type} {enc : TypeId × Value → H} {W : World} {r : Reach} {b0 : Nat} {v : Value} {d : DataW H} {p : List MemPlace} (hval : Value.okWide Try.prog W r b0 25 v) (h : DataW.Trod enc Try.prog W 0 (fun _ => true) true 25 v d p) :
    ∃ q a n c b m d, v = polV q a n c b m d ∧ Rd .u32 W a n c q.lev ∧ Rd .u32 W b m d q.best ∧ PW q := by
  obtain ⟨cs, rfl, hsz⟩ := okWide_struct Try.underlying25 hval
  have h6 : Try.prog.cellsOf 25 = 6 := by kernel_rfl
  have cI : Try.prog.cellsOf 3 = 1 := by kernel_rfl
  have cA : Try.prog.cellsOf 22 = 3 := by kernel_rfl
  have cS : Try.prog.cellsOf 23 = 1 := by kernel_rfl
  have cU : Try.prog.cellsOf 40 = 1 := by kernel_rfl
  rw [h6] at hsz
  obtain ⟨v0, v1, v2, v3, v4, v5, rfl⟩ : ∃ v0 v1 v2 v3 v4 v5, cs = #[v0, v1, v2, v3, v4, v5] := by
    obtain ⟨l⟩ := cs
    match l, hsz with
    | [v0, v1, v2, v3, v4, v5], _ => exact ⟨v0, v1, v2, v3, v4, v5, rfl⟩
  obtain ⟨fuel, hf⟩ := h
  obtain ⟨xs, n, _, _, _, hlen, hfs⟩ := DataW.trod_struct Try.underlying25 hf
  match xs, hlen with
  | [y0, y1, y2, y3], _ =>
    have h0 := hfs 0 _ rfl
    change DataW.trod _ _ _ _ _ _ _ 3 (List.take (Try.prog.cellsOf 3) [v0, v1, v2, v3, v4, v5]) = some y0 at h0
    rw [cI] at h0
    have h1 := hfs 1 _ rfl
    change DataW.trod _ _ _ _ _ _ _ 22 (List.take (Try.prog.cellsOf 22) [v1, v2, v3, v4, v5]) = some y1 at h1
    rw [cA] at h1
    have h2 := hfs 2 _ rfl
    change DataW.trod _ _ _ _ _ _ _ 23 (List.take (Try.prog.cellsOf 23) [v4, v5]) = some y2 at h2
    rw [cS] at h2
    have h3 := hfs 3 _ rfl
    change DataW.trod _ _ _ _ _ _ _ 23 (List.take (Try.prog.cellsOf 23) [v5]) = some y3 at h3
    rw [cS] at h3
    obtain ⟨z, e0, _, wz⟩ := DataW.trod_int Try.underlying3 h0
    obtain ⟨z0, z1, z2, rfl, rfl, rfl, w0, w1, w2⟩ := arr3_cells h1
    obtain ⟨a, m, c, xs1, e1, r1⟩ := rd_cell Try.underlying23 Try.underlying40 cU rfl h2
    obtain ⟨b, k, d, xs2, e2, r2⟩ := rd_cell Try.underlying23 Try.underlying40 cU rfl h3
    simp at e0
    refine ⟨⟨z, z0, z1, z2, xs1, xs2⟩, a, m, c, b, k, d, by rw [e0, e1, e2], r1, r2, bounds_i64 wz, w0, w1, w2⟩

end Go.Proofs.Ytkomdiblopdfiaa
