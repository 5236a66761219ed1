/- How an argument that is a rational number reads. No condition. -/
import Derived.Test.YtfcejgeckcoefaaFrame
import Derived.Test.YtfcejgeckcoefaaRatA
namespace Go.Proofs.Ytfcejgeckcoefaa
open Go.ChangeShapes Go.WideShapes Go.ChangeAt Go.RowKit Go.Suf
set_option linter.unusedVariables false
set_option linter.unusedSimpArgs false

set_option maxRecDepth 100000 in
theorem rat_open {H : Type} {enc : TypeId × Value → H} {W : World} {r : Reach} {b0 : Nat} {v : Value} {d : DataW H} {p : List MemPlace} (hval : Value.okWide Try.prog W r b0 27 v) (h : DataW.Trod enc Try.prog W 0 (fun _ => true) true 27 v d p) :
    ∃ g a n c b m d xs ys, v = ratV g a n c b m d ∧ Rd .u32 W a n c xs ∧ Rd .u32 W b m d ys := by
  obtain ⟨cs, rfl, hsz⟩ := okWide_struct Try.underlying27 hval
  have h3 : Try.prog.cellsOf 27 = 3 := by kernel_rfl
  have cB : Try.prog.cellsOf 4 = 1 := by kernel_rfl
  have cS : Try.prog.cellsOf 25 = 1 := by kernel_rfl
  have cU : Try.prog.cellsOf 56 = 1 := by kernel_rfl
  rw [h3] at hsz
  obtain ⟨v0, v1, v2, rfl⟩ : ∃ v0 v1 v2, cs = #[v0, v1, v2] := by
    obtain ⟨l⟩ := cs
    match l, hsz with
    | [v0, v1, v2], _ => exact ⟨v0, v1, v2, rfl⟩
  obtain ⟨fuel, hf⟩ := h
  obtain ⟨xs, n, _, _, _, hlen, hfs⟩ := DataW.trod_struct Try.underlying27 hf
  match xs, hlen with
  | [y0, y1, y2], _ =>
    have h0 := hfs 0 _ rfl
    change DataW.trod _ _ _ _ _ _ _ 4 (List.take (Try.prog.cellsOf 4) [v0, v1, v2]) = some y0 at h0
    rw [cB] at h0
    have h1 := hfs 1 _ rfl
    change DataW.trod _ _ _ _ _ _ _ 25 (List.take (Try.prog.cellsOf 25) [v1, v2]) = some y1 at h1
    rw [cS] at h1
    have h2 := hfs 2 _ rfl
    change DataW.trod _ _ _ _ _ _ _ 25 (List.take (Try.prog.cellsOf 25) [v2]) = some y2 at h2
    rw [cS] at h2
    obtain ⟨g, e0, _⟩ := DataW.trod_bool Try.underlying4 h0
    obtain ⟨a, m, c, xs1, e1, r1⟩ := rd_cell Try.underlying25 Try.underlying56 cU rfl h1
    obtain ⟨b, k, d, xs2, e2, r2⟩ := rd_cell Try.underlying25 Try.underlying56 cU rfl h2
    simp at e0
    exact ⟨g, a, m, c, b, k, d, xs1, xs2, by rw [e0, e1, e2], r1, r2⟩

end Go.Proofs.Ytfcejgeckcoefaa
