/- How arguments that are sheets, policies, ballots, decisions read. No condition. -/
import Derived.Test.YtlfempfhohejiaaFrame
import Derived.Test.YtlfempfhohejiaaSheA
import Derived.Deep.Slices
namespace Go.Suf
open Go.ChangeShapes Go.WideShapes Go.ChangeAt Go.RowKit Go.Deep
set_option linter.unusedVariables false
set_option linter.unusedSimpArgs false

/-- A slice of int that came in. -/
theorem rdI_open {H : Type} {enc : TypeId × Value → H} {P : Program} {W : World} {t e : TypeId} {a : Option Addr} {n cap : Nat} {d : DataW H} {p : List MemPlace} (ht : P.underlying t = some (.slice e)) (he : P.underlying e = some (.int .i64)) (hc : P.cellsOf e = 1)
    (h : DataW.Trod enc P W 0 (fun _ => true) true t (.slice a n cap) d p) : ∃ xs, RdI W a n cap xs := by
  obtain ⟨fuel, hf⟩ := h
  rcases open_ints ht he hc hf with ⟨hcs, _⟩ | ⟨x, l, c, zs, hcs, _, hl, hm, hz, _, hcell, hwz⟩
  · simp [Value.cells] at hcs
    obtain ⟨rfl, rfl, rfl⟩ := hcs
    exact ⟨[], RdG.nil _ _ _⟩
  · simp [Value.cells] at hcs
    obtain ⟨rfl, rfl, rfl⟩ := hcs
    have hz' : zs.length = cap := by simpa using hz
    have hlen : (zs.take n).length = n := by simp; omega
    refine ⟨zs.take n, hlen, ⟨by rw [List.length_map]; simp; omega, hm, fun e => by simp at e, fun i v hv => ?_, enc_one oneI _⟩, fun y hy => ?_⟩
    · have hi : i < n := by
        rcases Nat.lt_or_ge i n with h | h
        · exact h
        · rw [List.getElem?_map, List.getElem?_eq_none (by omega)] at hv; simp at hv
      have hcl := hcell i (by omega)
      rw [List.getElem?_map, List.getElem?_take_of_lt hi, List.getElem?_eq_getElem (by omega)] at hv
      simp only [Option.map_some, Option.some.injEq] at hv
      subst hv
      obtain ⟨b, off, spot⟩ := x
      have hspot : spot = none := by
        have := World.cell?_spot (hcell 0 (by omega))
        simpa [Addr.add] using this
      subst hspot
      refine ⟨b, off, rfl, ?_⟩
      have hadd : (⟨b, off, none⟩ : Addr).add i = ⟨b, off + i, none⟩ := by unfold Addr.add; split <;> simp_all
      rw [hadd] at hcl
      rw [hcl]
      simp [show i < zs.length by omega]
    · have hb := bounds_i64 (hwz y (List.mem_of_mem_take hy))
      exact hb

theorem rdI_cell {H : Type} {enc : TypeId × Value → H} {P : Program} {W : World} {t e : TypeId} {v : Value} {fuel : Nat} {x : DataW H × List MemPlace} (ht : P.underlying t = some (.slice e)) (he : P.underlying e = some (.int .i64)) (hc : P.cellsOf e = 1)
    (hf : DataW.trod enc P W 0 (fun _ => true) true fuel t [v] = some x) : ∃ a n cap xs, v = .slice a n cap ∧ RdI W a n cap xs := by
  rcases open_ints ht he hc hf with ⟨hcs, _⟩ | ⟨y, l, c, zs, hcs, _⟩
  · simp at hcs
    exact ⟨none, 0, 0, [], hcs, RdG.nil _ _ _⟩
  · simp at hcs
    subst hcs
    obtain ⟨d, p⟩ := x
    obtain ⟨xs, h⟩ := rdI_open (d := d) (p := p) ht he hc ⟨fuel, hf⟩
    exact ⟨_, _, _, xs, rfl, h⟩
end Go.Suf
namespace Go.Proofs.Ytlfempfhohejiaa
open Go.ChangeShapes Go.WideShapes Go.ChangeAt Go.RowKit Go.Suf Go.Deep
set_option linter.unusedVariables false
set_option linter.unusedSimpArgs false

instance : Inhabited DQ := ⟨⟨0, false⟩⟩

theorem dec_cell {H : Type} {enc : TypeId × Value → H} {W : World} {cs : List Value} {fuel : Nat} {x : DataW H × List MemPlace} (hl : cs.length = 2) (hf : DataW.trod enc Try.prog W 0 (fun _ => true) true fuel 58 cs = some x) :
    ∃ v : DQ, cs = [.int .i64 v.bx, .bool v.yes] ∧ okI v.bx := by
  have c3 : Try.prog.cellsOf 3 = 1 := by kernel_rfl
  have c4 : Try.prog.cellsOf 4 = 1 := by kernel_rfl
  obtain ⟨v0, v1, rfl⟩ : ∃ v0 v1, cs = [v0, v1] := by
    match cs, hl with
    | [v0, v1], _ => exact ⟨v0, v1, rfl⟩
  obtain ⟨xs, n, _, _, _, hlen, hfs⟩ := DataW.trod_struct Try.underlying58 hf
  match xs, hlen with
  | [y0, y1], _ =>
    have h0 := hfs 0 _ rfl
    change DataW.trod _ _ _ _ _ _ _ 3 (List.take (Try.prog.cellsOf 3) [v0, v1]) = some y0 at h0
    rw [c3] at h0
    have h1 := hfs 1 _ rfl
    change DataW.trod _ _ _ _ _ _ _ 4 (List.take (Try.prog.cellsOf 4) [v1]) = some y1 at h1
    rw [c4] at h1
    obtain ⟨bx, e0, _, w0⟩ := DataW.trod_int Try.underlying3 h0
    obtain ⟨z, e1, _⟩ := DataW.trod_bool Try.underlying4 h1
    simp at e0 e1
    exact ⟨⟨bx, z⟩, by rw [e0, e1], bounds_i64 w0⟩

theorem dec_open {H : Type} {enc : TypeId × Value → H} {W : World} {a : Option Addr} {n cap : Nat} {d : DataW H} {p : List MemPlace} (h : DataW.Trod enc Try.prog W 0 (fun _ => true) true 49 (.slice a n cap) d p) : ∃ l, RdD W a n cap l := by
  have c58 : Try.prog.cellsOf 58 = 2 := by kernel_rfl
  obtain ⟨fuel, hf⟩ := h
  rcases open_slice Try.underlying49 hf with ⟨hcs, _⟩ | ⟨x, len, c, m, f, D, Pl, hcs, hb, hl, hm, hmm, hd, hx⟩
  · simp [Value.cells] at hcs
    obtain ⟨rfl, rfl, rfl⟩ := hcs
    exact ⟨[], rfl, Nat.le_refl _, Nat.zero_le _, fun _ => rfl, fun i hi => by omega, fun v hv => by simp at hv⟩
  · simp [Value.cells] at hcs
    obtain ⟨rfl, rfl, rfl⟩ := hcs
    simp only [if_true] at hmm
    have hmc : m = cap := by omega
    subst hmc
    rw [c58] at hx
    have each : ∀ r, r < m → ∃ v : DQ, okI v.bx ∧ ∀ j u, ([.int .i64 v.bx, .bool v.yes] : List Value)[j]? = some u → W.cell? ((x.add (r * 2)).add j) = some u := by
      intro r hr
      obtain ⟨cs', h1, h2⟩ := hx r hr
      obtain ⟨_, hlen, hcell⟩ := World.cells?_some h1
      obtain ⟨v, rfl, hw⟩ := dec_cell hlen h2
      refine ⟨v, hw, fun j u hu => ?_⟩
      rw [hcell j (by have := (List.getElem?_eq_some_iff.1 hu).1; simpa using this)]
      exact hu
    obtain ⟨y, hy⟩ := choose_lt each
    by_cases hn : n = 0
    · subst hn
      exact ⟨[], rfl, Nat.zero_le _, hm, fun hh => by simp at hh, fun i hi => by omega, fun v hv => by simp at hv⟩
    · obtain ⟨b, off, spot⟩ := x
      have hspot : spot = none := by
        have := World.cell?_spot ((hy 0 (by omega)).2 0 _ rfl)
        simpa [Addr.add] using this
      subst hspot
      have hv : ∀ i, i < n → dth ((List.range n).map y) i = y i := fun i hi => by simp [dth, hi]
      refine ⟨(List.range n).map y, by simp, hl, hm, fun hh => by simp at hh, fun i hi => ⟨b, off, rfl, ?_⟩, fun v hv' => ?_⟩
      · have hc := (hy i (by omega)).2
        have hadd : ∀ j, ((⟨b, off, none⟩ : Addr).add (i * 2)).add j = ⟨b, off + i * 2 + j, none⟩ := fun j => by
          have h1 : ∀ k o, (⟨b, o, none⟩ : Addr).add k = ⟨b, o + k, none⟩ := fun k o => by unfold Addr.add; split <;> simp_all
          rw [h1, h1]
        rw [hv i hi]
        have e0 := hc 0 _ rfl
        have e1 := hc 1 _ rfl
        rw [hadd] at e0 e1
        exact ⟨e0, e1⟩
      · rw [List.mem_map] at hv'
        obtain ⟨r, hr, rfl⟩ := hv'
        exact (hy r (by have := List.mem_range.1 hr; omega)).1

set_option maxRecDepth 100000 in
theorem she_open {H : Type} {enc : TypeId × Value → H} {W : World} {r : Reach} {b0 : Nat} {v : Value} {d : DataW H} {p : List MemPlace} (hval : Value.okWide Try.prog W r b0 27 v) (h : DataW.Trod enc Try.prog W 0 (fun _ => true) true 27 v d p) :
    ∃ a n cap xs, v = .agg #[.slice a n cap] ∧ Rd .u8 W a n cap xs := by
  obtain ⟨cs, rfl, hsz⟩ := okWide_struct Try.underlying27 hval
  have h1 : Try.prog.cellsOf 27 = 1 := by kernel_rfl
  have cS : Try.prog.cellsOf 25 = 1 := by kernel_rfl
  have cU : Try.prog.cellsOf 5 = 1 := by kernel_rfl
  rw [h1] at hsz
  obtain ⟨v0, rfl⟩ : ∃ v0, cs = #[v0] := by
    obtain ⟨l⟩ := cs
    match l, hsz with
    | [v0], _ => exact ⟨v0, rfl⟩
  obtain ⟨fuel, hf⟩ := h
  obtain ⟨xs, n, _, _, _, hlen, hfs⟩ := DataW.trod_struct Try.underlying27 hf
  match xs, hlen with
  | [y0], _ =>
    have h0 := hfs 0 _ rfl
    change DataW.trod _ _ _ _ _ _ _ 25 (List.take (Try.prog.cellsOf 25) [v0]) = some y0 at h0
    rw [cS] at h0
    obtain ⟨a, m, c, xs1, e0, r0⟩ := rd_cell Try.underlying25 Try.underlying5 cU rfl h0
    exact ⟨a, m, c, xs1, by rw [e0], r0⟩

set_option maxRecDepth 100000 in
theorem bal_open {H : Type} {enc : TypeId × Value → H} {W : World} {r : Reach} {b0 : Nat} {v : Value} {d : DataW H} {p : List MemPlace} (hval : Value.okWide Try.prog W r b0 39 v) (h : DataW.Trod enc Try.prog W 0 (fun _ => true) true 39 v d p) :
    ∃ kd a n cap xs, v = .agg #[.int .u8 ((kd : Nat) : Int), .slice a n cap] ∧ kd < 256 ∧ RdI W a n cap xs := by
  obtain ⟨cs, rfl, hsz⟩ := okWide_struct Try.underlying39 hval
  have h2 : Try.prog.cellsOf 39 = 2 := by kernel_rfl
  have cS : Try.prog.cellsOf 37 = 1 := by kernel_rfl
  have cI : Try.prog.cellsOf 3 = 1 := by kernel_rfl
  have cU : Try.prog.cellsOf 5 = 1 := by kernel_rfl
  rw [h2] at hsz
  obtain ⟨v0, v1, rfl⟩ : ∃ v0 v1, cs = #[v0, v1] := by
    obtain ⟨l⟩ := cs
    match l, hsz with
    | [v0, v1], _ => exact ⟨v0, v1, rfl⟩
  obtain ⟨fuel, hf⟩ := h
  obtain ⟨xs, n, _, _, _, hlen, hfs⟩ := DataW.trod_struct Try.underlying39 hf
  match xs, hlen with
  | [y0, y1], _ =>
    have h0 := hfs 0 _ rfl
    change DataW.trod _ _ _ _ _ _ _ 5 (List.take (Try.prog.cellsOf 5) [v0, v1]) = some y0 at h0
    rw [cU] at h0
    have h1 := hfs 1 _ rfl
    change DataW.trod _ _ _ _ _ _ _ 37 (List.take (Try.prog.cellsOf 37) [v1]) = some y1 at h1
    rw [cS] at h1
    obtain ⟨ku, e0, _, w0⟩ := DataW.trod_int Try.underlying5 h0
    obtain ⟨a, m, c, xs1, e1, r1⟩ := rdI_cell Try.underlying37 Try.underlying3 cI h1
    obtain ⟨kd, rfl, hk⟩ := ofNat_open rfl w0
    simp at e0
    exact ⟨kd, a, m, c, xs1, by rw [e0, e1], hk, r1⟩

set_option maxRecDepth 100000 in
theorem plc_open {H : Type} {enc : TypeId × Value → H} {W : World} {r : Reach} {b0 : Nat} {v : Value} {d : DataW H} {p : List MemPlace} (hval : Value.okWide Try.prog W r b0 48 v) (h : DataW.Trod enc Try.prog W 0 (fun _ => true) true 48 v d p) :
    ∃ q : PQ, v = .agg (polc q) ∧ PW q := by
  obtain ⟨cs, rfl, hsz⟩ := okWide_struct Try.underlying48 hval
  have h3 : Try.prog.cellsOf 48 = 3 := by kernel_rfl
  have cI : Try.prog.cellsOf 3 = 1 := by kernel_rfl
  have cU : Try.prog.cellsOf 5 = 1 := by kernel_rfl
  rw [h3] at hsz
  obtain ⟨v0, v1, v2, rfl⟩ : ∃ v0 v1 v2, cs = #[v0, v1, v2] := by
    obtain ⟨l⟩ := cs
    match l, hsz with
    | [v0, v1, v2], _ => exact ⟨v0, v1, v2, rfl⟩
  obtain ⟨fuel, hf⟩ := h
  obtain ⟨xs, n, _, _, _, hlen, hfs⟩ := DataW.trod_struct Try.underlying48 hf
  match xs, hlen with
  | [y0, y1, y2], _ =>
    have h0 := hfs 0 _ rfl
    change DataW.trod _ _ _ _ _ _ _ 5 (List.take (Try.prog.cellsOf 5) [v0, v1, v2]) = some y0 at h0
    rw [cU] at h0
    have h1 := hfs 1 _ rfl
    change DataW.trod _ _ _ _ _ _ _ 5 (List.take (Try.prog.cellsOf 5) [v1, v2]) = some y1 at h1
    rw [cU] at h1
    have h2 := hfs 2 _ rfl
    change DataW.trod _ _ _ _ _ _ _ 3 (List.take (Try.prog.cellsOf 3) [v2]) = some y2 at h2
    rw [cI] at h2
    obtain ⟨lu, e0, _, w0⟩ := DataW.trod_int Try.underlying5 h0
    obtain ⟨hu, e1, _, w1⟩ := DataW.trod_int Try.underlying5 h1
    obtain ⟨sk, e2, _, w2⟩ := DataW.trod_int Try.underlying3 h2
    obtain ⟨lo, rfl, hlo⟩ := ofNat_open rfl w0
    obtain ⟨hi, rfl, hhi⟩ := ofNat_open rfl w1
    simp at e0 e1 e2
    exact ⟨⟨lo, hi, sk⟩, by rw [e0, e1, e2], hlo, hhi, bounds_i64 w2⟩

end Go.Proofs.Ytlfempfhohejiaa
