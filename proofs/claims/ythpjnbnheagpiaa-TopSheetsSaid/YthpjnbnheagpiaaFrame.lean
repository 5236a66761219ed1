/- How an argument of a law reads: what the form's reading gives, in this seat's own predicates. No condition. -/
import Derived.Test.YthpjnbnheagpiaaBase
import Derived.ProofKit
import Derived.OpenShut
import Derived.ShutString
import Derived.ChangeOld
import Derived.Test.YthpjnbnheagpiaaConPlain
import Derived.Test.YthpjnbnheagpiaaRows
import Derived.Deep.Strs
import Derived.Test.YthpjnbnheagpiaaSheA
import Derived.Deep.Slices
import Derived.Test.YthpjnbnheagpiaaTopB
namespace Go.Suf
open Go.ChangeShapes Go.WideShapes Go.ChangeAt Go.RowKit

def unsig : IntKind → Bool
  | .u8 | .u16 | .u32 | .u64 => true
  | _ => false

theorem unsig_bounds {k : IntKind} (hk : unsig k = true) {n : Int} (h : (Lit.int k n).wf = true) : 0 ≤ n ∧ n < (lim k : Int) := by
  cases k <;> simp [unsig] at hk
  · have := bounds_u8 h; simp [lim]; omega
  · have := bounds_u16 h; simp [lim]; omega
  · have := bounds_u32 h; simp [lim]; omega
  · have := bounds_u64 h; simp [lim]; omega

/-- A slice of unsigned integers that came in. -/
theorem rd_open {H : Type} {enc : TypeId × Value → H} {P : Program} {W : World} {t e : TypeId} {k : IntKind} {a : Option Addr} {n cap : Nat} {d : DataW H} {p : List MemPlace} (ht : P.underlying t = some (.slice e)) (he : P.underlying e = some (.int k)) (hc : P.cellsOf e = 1) (hk : unsig k = true)
    (h : DataW.Trod enc P W 0 (fun _ => true) true t (.slice a n cap) d p) : ∃ xs, Rd k W a n cap xs := by
  obtain ⟨fuel, hf⟩ := h
  rcases open_ints ht he hc hf with ⟨hcs, _⟩ | ⟨x, l, c, zs, hcs, _, hl, hm, hz, _, hcell, hwz⟩
  · simp [Value.cells] at hcs
    obtain ⟨rfl, rfl, rfl⟩ := hcs
    exact ⟨[], Rd.nil _ _⟩
  · simp [Value.cells] at hcs
    obtain ⟨rfl, rfl, rfl⟩ := hcs
    have hz' : zs.length = cap := by simpa using hz
    have hlen : ((zs.take n).map Int.toNat).length = n := by simp; omega
    refine ⟨(zs.take n).map Int.toNat, hlen, ⟨by simp; omega, hm, fun e => by simp at e, fun i v hv => ?_, nums_one _ _⟩, fun y hy => ?_⟩
    · have hi : i < n := by
        rcases Nat.lt_or_ge i n with h | h
        · exact h
        · rw [List.getElem?_eq_none (by simp; omega)] at hv; simp at hv
      rw [nums_at _ _ _ (by omega)] at hv
      simp only [Option.some.injEq] at hv
      subst hv
      have hcl := hcell i (by omega)
      have hb := unsig_bounds hk (hwz (zs[i]'(by omega)) (List.getElem_mem _))
      obtain ⟨b, off, spot⟩ := x
      have hspot : spot = none := by
        have := World.cell?_spot (hcell 0 (by omega))
        simpa [Addr.add] using this
      subst hspot
      refine ⟨b, off, rfl, ?_⟩
      have hadd : (⟨b, off, none⟩ : Addr).add i = ⟨b, off + i, none⟩ := by unfold Addr.add; split <;> simp_all
      rw [hadd] at hcl
      rw [hcl]
      simp [nth, hi, show i < zs.length by omega]
      omega
    · rw [List.mem_map] at hy
      obtain ⟨z, hzm, rfl⟩ := hy
      have hb := unsig_bounds hk (hwz z (List.mem_of_mem_take hzm))
      omega

/-- A slice of unsigned integers that came in, as a value whose shape is not known yet. -/
theorem rd_cell {H : Type} {enc : TypeId × Value → H} {P : Program} {W : World} {t e : TypeId} {k : IntKind} {v : Value} {fuel : Nat} {x : DataW H × List MemPlace} (ht : P.underlying t = some (.slice e)) (he : P.underlying e = some (.int k)) (hc : P.cellsOf e = 1) (hk : unsig k = true)
    (hf : DataW.trod enc P W 0 (fun _ => true) true fuel t [v] = some x) : ∃ a n cap xs, v = .slice a n cap ∧ Rd k W a n cap xs := by
  have key : ∃ a n cap, v = .slice a n cap := by
    rcases open_ints ht he hc hf with ⟨hcs, _⟩ | ⟨x, l, c, zs, hcs, _⟩
    · simp at hcs
      exact ⟨_, _, _, hcs⟩
    · simp at hcs
      exact ⟨_, _, _, hcs⟩
  obtain ⟨a, n, cap, rfl⟩ := key
  have h : DataW.Trod enc P W 0 (fun _ => true) true t (.slice a n cap) x.1 x.2 := ⟨fuel, by simpa [Value.cells] using hf⟩
  obtain ⟨xs, hxs⟩ := rd_open ht he hc hk h
  exact ⟨a, n, cap, xs, rfl, hxs⟩

theorem ofNat_open {k : IntKind} (hk : unsig k = true) {n : Int} (h : (Lit.int k n).wf = true) : ∃ m : Nat, n = (m : Int) ∧ m < lim k := by
  have := unsig_bounds hk h
  exact ⟨n.toNat, by omega, by omega⟩

end Go.Suf
/- How an argument that is a contest reads. No condition. -/
set_option linter.unusedVariables false
set_option linter.unusedSimpArgs false
namespace Go.Suf
open Go.ChangeShapes Go.WideShapes Go.ChangeAt Go.RowKit Go.Deep

/-- A slice of strings that came in. -/
theorem rdS_cell {H : Type} {enc : TypeId × Value → H} {P : Program} {W : World} {t e : TypeId} {v : Value} {fuel : Nat} {x : DataW H × List MemPlace} (ht : P.underlying t = some (.slice e)) (he : P.underlying e = some .string) (hc : P.cellsOf e = 1)
    (hf : DataW.trod enc P W 0 (fun _ => true) true fuel t [v] = some x) : ∃ a n cap ss, v = .slice a n cap ∧ RdS W a n cap ss ∧ ∀ s ∈ ss, s.size ≤ maxLen := by
  rcases open_strs ht he hc hf with ⟨hcs, _⟩ | ⟨ad, len, cap, m, Sx, hcs, hb, hl, hm, hmm, _, hx⟩
  · simp at hcs
    exact ⟨none, 0, 0, [], hcs, ⟨rfl, Sl.empty _ _ _ (Nat.zero_le _) (fun _ => rfl)⟩, fun s hs => by simp at hs⟩
  · simp at hcs
    simp only [if_true] at hmm
    have hmc : m = cap := by omega
    subst hmc
    refine ⟨some ad, len, m, (List.range len).map Sx, hcs, ⟨by simp, ⟨by simpa using hl, hm, fun h => by simp at h, fun i c hcc => ?_, strs_one _⟩⟩, fun s hs => ?_⟩
    · have hi : i < len := by
        rcases Nat.lt_or_ge i len with h | h
        · exact h
        · rw [List.getElem?_eq_none (by simpa using h)] at hcc; simp at hcc
      simp [strs, hi] at hcc
      subst hcc
      have h1 := (hx i (by omega)).1
      obtain ⟨b, off, spot⟩ := ad
      have hspot : spot = none := by
        have := World.cell?_spot (hx 0 (by omega)).1
        simpa [Addr.add] using this
      subst hspot
      have hadd : (⟨b, off, none⟩ : Addr).add i = ⟨b, off + i, none⟩ := by unfold Addr.add; split <;> simp_all
      rw [hadd] at h1
      exact ⟨b, off, rfl, h1⟩
    · rw [List.mem_map] at hs
      obtain ⟨i, hi, rfl⟩ := hs
      exact (hx i (by have := List.mem_range.1 hi; omega)).2
end Go.Suf
namespace Go.Proofs.Ythpjnbnheagpiaa
open Go.ChangeShapes Go.WideShapes Go.ChangeAt Go.RowKit Go.Deep Go.Suf

set_option maxRecDepth 100000 in
theorem con_open {H : Type} {enc : TypeId × Value → H} {W : World} {r : Reach} {b0 : Nat} {v : Value} {d : DataW H} {p : List MemPlace} (hval : Value.okWide Try.prog W r b0 24 v) (h : DataW.Trod enc Try.prog W 0 (fun _ => true) true 24 v d p) :
    ∃ nm a n cap ss seats rule, v = .agg #[.string nm, .slice a n cap, .int .i64 seats, .int .u8 ((rule : Nat) : Int)] ∧ RdS W a n cap ss ∧ (∀ s ∈ ss, s.size ≤ maxLen) ∧ nm.size ≤ maxLen ∧ -9223372036854775808 ≤ seats ∧ seats ≤ 9223372036854775807 ∧ rule < 256 := by
  obtain ⟨cs, rfl, hsz⟩ := okWide_struct Try.underlying24 hval
  have h4 : Try.prog.cellsOf 24 = 4 := by kernel_rfl
  have c9 : Try.prog.cellsOf 9 = 1 := by kernel_rfl
  have c38 : Try.prog.cellsOf 22 = 1 := by kernel_rfl
  have c3 : Try.prog.cellsOf 3 = 1 := by kernel_rfl
  have c5 : Try.prog.cellsOf 5 = 1 := by kernel_rfl
  rw [h4] at hsz
  obtain ⟨v0, v1, v2, v3, rfl⟩ : ∃ v0 v1 v2 v3, cs = #[v0, v1, v2, v3] := by
    obtain ⟨l⟩ := cs
    match l, hsz with
    | [v0, v1, v2, v3], _ => exact ⟨v0, v1, v2, v3, rfl⟩
  obtain ⟨fuel, hf⟩ := h
  obtain ⟨xs, n, _, _, _, hlen, hfs⟩ := DataW.trod_struct Try.underlying24 hf
  match xs, hlen with
  | [y0, y1, y2, y3], _ =>
    have h0 := hfs 0 _ rfl
    change DataW.trod _ _ _ _ _ _ _ 9 (List.take (Try.prog.cellsOf 9) [v0, v1, v2, v3]) = some y0 at h0
    rw [c9] at h0
    have h1 := hfs 1 _ rfl
    change DataW.trod _ _ _ _ _ _ _ 22 (List.take (Try.prog.cellsOf 22) [v1, v2, v3]) = some y1 at h1
    rw [c38] at h1
    have h2 := hfs 2 _ rfl
    change DataW.trod _ _ _ _ _ _ _ 3 (List.take (Try.prog.cellsOf 3) [v2, v3]) = some y2 at h2
    rw [c3] at h2
    have h3 := hfs 3 _ rfl
    change DataW.trod _ _ _ _ _ _ _ 5 (List.take (Try.prog.cellsOf 5) [v3]) = some y3 at h3
    rw [c5] at h3
    obtain ⟨nm, e0, _, hnm⟩ := DataW.trod_string Try.underlying9 h0
    obtain ⟨a, m, cap, ss, e1, hss, hle⟩ := rdS_cell Try.underlying22 Try.underlying9 c38 h1
    obtain ⟨seats, e2, _, w2⟩ := DataW.trod_int Try.underlying3 h2
    obtain ⟨ru, e3, _, w3⟩ := DataW.trod_int Try.underlying5 h3
    have b2 := bounds_i64 w2
    obtain ⟨rule, rfl, hr⟩ := ofNat_open rfl w3
    simp at e0 e2 e3
    exact ⟨nm, a, m, cap, ss, seats, rule, by rw [e0, e1, e2, e3], hss, hle, hnm, b2.1, b2.2, hr⟩

end Go.Proofs.Ythpjnbnheagpiaa
/- How arguments that are sheets, policies, ballots, decisions read. No condition. -/
namespace Go.Suf
open Go.ChangeShapes Go.WideShapes Go.ChangeAt Go.RowKit Go.Deep
set_option linter.unusedVariables false
set_option linter.unusedSimpArgs false

/-- A slice of int that came in. -/
theorem rdI_open {H : Type} {enc : TypeId × Value → H} {P : Program} {W : World} {t e : TypeId} {a : Option Addr} {n cap : Nat} {d : DataW H} {p : List MemPlace} (ht : P.underlying t = some (.slice e)) (he : P.underlying e = some (.int .i64)) (hc : P.cellsOf e = 1)
    (h : DataW.Trod enc P W 0 (fun _ => true) true t (.slice a n cap) d p) : ∃ xs, RdI W a n cap xs := by
  obtain ⟨fuel, hf⟩ := h
  rcases open_ints ht he hc hf with ⟨hcs, _⟩ | ⟨x, l, c, zs, hcs, _, hl, hm, hz, _, hcell, hwz⟩
  · simp [Value.cells] at hcs
    obtain ⟨rfl, rfl, rfl⟩ := hcs
    exact ⟨[], RdG.nil _ _ _⟩
  · simp [Value.cells] at hcs
    obtain ⟨rfl, rfl, rfl⟩ := hcs
    have hz' : zs.length = cap := by simpa using hz
    have hlen : (zs.take n).length = n := by simp; omega
    refine ⟨zs.take n, hlen, ⟨by rw [List.length_map]; simp; omega, hm, fun e => by simp at e, fun i v hv => ?_, enc_one oneI _⟩, fun y hy => ?_⟩
    · have hi : i < n := by
        rcases Nat.lt_or_ge i n with h | h
        · exact h
        · rw [List.getElem?_map, List.getElem?_eq_none (by omega)] at hv; simp at hv
      have hcl := hcell i (by omega)
      rw [List.getElem?_map, List.getElem?_take_of_lt hi, List.getElem?_eq_getElem (by omega)] at hv
      simp only [Option.map_some, Option.some.injEq] at hv
      subst hv
      obtain ⟨b, off, spot⟩ := x
      have hspot : spot = none := by
        have := World.cell?_spot (hcell 0 (by omega))
        simpa [Addr.add] using this
      subst hspot
      refine ⟨b, off, rfl, ?_⟩
      have hadd : (⟨b, off, none⟩ : Addr).add i = ⟨b, off + i, none⟩ := by unfold Addr.add; split <;> simp_all
      rw [hadd] at hcl
      rw [hcl]
      simp [show i < zs.length by omega]
    · have hb := bounds_i64 (hwz y (List.mem_of_mem_take hy))
      exact hb

theorem rdI_cell {H : Type} {enc : TypeId × Value → H} {P : Program} {W : World} {t e : TypeId} {v : Value} {fuel : Nat} {x : DataW H × List MemPlace} (ht : P.underlying t = some (.slice e)) (he : P.underlying e = some (.int .i64)) (hc : P.cellsOf e = 1)
    (hf : DataW.trod enc P W 0 (fun _ => true) true fuel t [v] = some x) : ∃ a n cap xs, v = .slice a n cap ∧ RdI W a n cap xs := by
  rcases open_ints ht he hc hf with ⟨hcs, _⟩ | ⟨y, l, c, zs, hcs, _⟩
  · simp at hcs
    exact ⟨none, 0, 0, [], hcs, RdG.nil _ _ _⟩
  · simp at hcs
    subst hcs
    obtain ⟨d, p⟩ := x
    obtain ⟨xs, h⟩ := rdI_open (d := d) (p := p) ht he hc ⟨fuel, hf⟩
    exact ⟨_, _, _, xs, rfl, h⟩
end Go.Suf
namespace Go.Proofs.Ythpjnbnheagpiaa
open Go.ChangeShapes Go.WideShapes Go.ChangeAt Go.RowKit Go.Suf Go.Deep
set_option linter.unusedVariables false
set_option linter.unusedSimpArgs false

instance : Inhabited DQ := ⟨⟨0, false⟩⟩

theorem dec_cell {H : Type} {enc : TypeId × Value → H} {W : World} {cs : List Value} {fuel : Nat} {x : DataW H × List MemPlace} (hl : cs.length = 2) (hf : DataW.trod enc Try.prog W 0 (fun _ => true) true fuel 74 cs = some x) :
    ∃ v : DQ, cs = [.int .i64 v.bx, .bool v.yes] ∧ okI v.bx := by
  have c3 : Try.prog.cellsOf 3 = 1 := by kernel_rfl
  have c4 : Try.prog.cellsOf 4 = 1 := by kernel_rfl
  obtain ⟨v0, v1, rfl⟩ : ∃ v0 v1, cs = [v0, v1] := by
    match cs, hl with
    | [v0, v1], _ => exact ⟨v0, v1, rfl⟩
  obtain ⟨xs, n, _, _, _, hlen, hfs⟩ := DataW.trod_struct Try.underlying74 hf
  match xs, hlen with
  | [y0, y1], _ =>
    have h0 := hfs 0 _ rfl
    change DataW.trod _ _ _ _ _ _ _ 3 (List.take (Try.prog.cellsOf 3) [v0, v1]) = some y0 at h0
    rw [c3] at h0
    have h1 := hfs 1 _ rfl
    change DataW.trod _ _ _ _ _ _ _ 4 (List.take (Try.prog.cellsOf 4) [v1]) = some y1 at h1
    rw [c4] at h1
    obtain ⟨bx, e0, _, w0⟩ := DataW.trod_int Try.underlying3 h0
    obtain ⟨z, e1, _⟩ := DataW.trod_bool Try.underlying4 h1
    simp at e0 e1
    exact ⟨⟨bx, z⟩, by rw [e0, e1], bounds_i64 w0⟩

theorem dec_open {H : Type} {enc : TypeId × Value → H} {W : World} {a : Option Addr} {n cap : Nat} {d : DataW H} {p : List MemPlace} (h : DataW.Trod enc Try.prog W 0 (fun _ => true) true 66 (.slice a n cap) d p) : ∃ l, RdD W a n cap l := by
  have c58 : Try.prog.cellsOf 74 = 2 := by kernel_rfl
  obtain ⟨fuel, hf⟩ := h
  rcases open_slice Try.underlying66 hf with ⟨hcs, _⟩ | ⟨x, len, c, m, f, D, Pl, hcs, hb, hl, hm, hmm, hd, hx⟩
  · simp [Value.cells] at hcs
    obtain ⟨rfl, rfl, rfl⟩ := hcs
    exact ⟨[], rfl, Nat.le_refl _, Nat.zero_le _, fun _ => rfl, fun i hi => by omega, fun v hv => by simp at hv⟩
  · simp [Value.cells] at hcs
    obtain ⟨rfl, rfl, rfl⟩ := hcs
    simp only [if_true] at hmm
    have hmc : m = cap := by omega
    subst hmc
    rw [c58] at hx
    have each : ∀ r, r < m → ∃ v : DQ, okI v.bx ∧ ∀ j u, ([.int .i64 v.bx, .bool v.yes] : List Value)[j]? = some u → W.cell? ((x.add (r * 2)).add j) = some u := by
      intro r hr
      obtain ⟨cs', h1, h2⟩ := hx r hr
      obtain ⟨_, hlen, hcell⟩ := World.cells?_some h1
      obtain ⟨v, rfl, hw⟩ := dec_cell hlen h2
      refine ⟨v, hw, fun j u hu => ?_⟩
      rw [hcell j (by have := (List.getElem?_eq_some_iff.1 hu).1; simpa using this)]
      exact hu
    obtain ⟨y, hy⟩ := choose_lt each
    by_cases hn : n = 0
    · subst hn
      exact ⟨[], rfl, Nat.zero_le _, hm, fun hh => by simp at hh, fun i hi => by omega, fun v hv => by simp at hv⟩
    · obtain ⟨b, off, spot⟩ := x
      have hspot : spot = none := by
        have := World.cell?_spot ((hy 0 (by omega)).2 0 _ rfl)
        simpa [Addr.add] using this
      subst hspot
      have hv : ∀ i, i < n → dth ((List.range n).map y) i = y i := fun i hi => by simp [dth, hi]
      refine ⟨(List.range n).map y, by simp, hl, hm, fun hh => by simp at hh, fun i hi => ⟨b, off, rfl, ?_⟩, fun v hv' => ?_⟩
      · have hc := (hy i (by omega)).2
        have hadd : ∀ j, ((⟨b, off, none⟩ : Addr).add (i * 2)).add j = ⟨b, off + i * 2 + j, none⟩ := fun j => by
          have h1 : ∀ k o, (⟨b, o, none⟩ : Addr).add k = ⟨b, o + k, none⟩ := fun k o => by unfold Addr.add; split <;> simp_all
          rw [h1, h1]
        rw [hv i hi]
        have e0 := hc 0 _ rfl
        have e1 := hc 1 _ rfl
        rw [hadd] at e0 e1
        exact ⟨e0, e1⟩
      · rw [List.mem_map] at hv'
        obtain ⟨r, hr, rfl⟩ := hv'
        exact (hy r (by have := List.mem_range.1 hr; omega)).1

set_option maxRecDepth 100000 in
theorem she_open {H : Type} {enc : TypeId × Value → H} {W : World} {r : Reach} {b0 : Nat} {v : Value} {d : DataW H} {p : List MemPlace} (hval : Value.okWide Try.prog W r b0 40 v) (h : DataW.Trod enc Try.prog W 0 (fun _ => true) true 40 v d p) :
    ∃ a n cap xs, v = .agg #[.slice a n cap] ∧ Rd .u8 W a n cap xs := by
  obtain ⟨cs, rfl, hsz⟩ := okWide_struct Try.underlying40 hval
  have h1 : Try.prog.cellsOf 40 = 1 := by kernel_rfl
  have cS : Try.prog.cellsOf 38 = 1 := by kernel_rfl
  have cU : Try.prog.cellsOf 5 = 1 := by kernel_rfl
  rw [h1] at hsz
  obtain ⟨v0, rfl⟩ : ∃ v0, cs = #[v0] := by
    obtain ⟨l⟩ := cs
    match l, hsz with
    | [v0], _ => exact ⟨v0, rfl⟩
  obtain ⟨fuel, hf⟩ := h
  obtain ⟨xs, n, _, _, _, hlen, hfs⟩ := DataW.trod_struct Try.underlying40 hf
  match xs, hlen with
  | [y0], _ =>
    have h0 := hfs 0 _ rfl
    change DataW.trod _ _ _ _ _ _ _ 38 (List.take (Try.prog.cellsOf 38) [v0]) = some y0 at h0
    rw [cS] at h0
    obtain ⟨a, m, c, xs1, e0, r0⟩ := rd_cell Try.underlying38 Try.underlying5 cU rfl h0
    exact ⟨a, m, c, xs1, by rw [e0], r0⟩

set_option maxRecDepth 100000 in
theorem bal_open {H : Type} {enc : TypeId × Value → H} {W : World} {r : Reach} {b0 : Nat} {v : Value} {d : DataW H} {p : List MemPlace} (hval : Value.okWide Try.prog W r b0 37 v) (h : DataW.Trod enc Try.prog W 0 (fun _ => true) true 37 v d p) :
    ∃ kd a n cap xs, v = .agg #[.int .u8 ((kd : Nat) : Int), .slice a n cap] ∧ kd < 256 ∧ RdI W a n cap xs := by
  obtain ⟨cs, rfl, hsz⟩ := okWide_struct Try.underlying37 hval
  have h2 : Try.prog.cellsOf 37 = 2 := by kernel_rfl
  have cS : Try.prog.cellsOf 35 = 1 := by kernel_rfl
  have cI : Try.prog.cellsOf 3 = 1 := by kernel_rfl
  have cU : Try.prog.cellsOf 5 = 1 := by kernel_rfl
  rw [h2] at hsz
  obtain ⟨v0, v1, rfl⟩ : ∃ v0 v1, cs = #[v0, v1] := by
    obtain ⟨l⟩ := cs
    match l, hsz with
    | [v0, v1], _ => exact ⟨v0, v1, rfl⟩
  obtain ⟨fuel, hf⟩ := h
  obtain ⟨xs, n, _, _, _, hlen, hfs⟩ := DataW.trod_struct Try.underlying37 hf
  match xs, hlen with
  | [y0, y1], _ =>
    have h0 := hfs 0 _ rfl
    change DataW.trod _ _ _ _ _ _ _ 5 (List.take (Try.prog.cellsOf 5) [v0, v1]) = some y0 at h0
    rw [cU] at h0
    have h1 := hfs 1 _ rfl
    change DataW.trod _ _ _ _ _ _ _ 35 (List.take (Try.prog.cellsOf 35) [v1]) = some y1 at h1
    rw [cS] at h1
    obtain ⟨ku, e0, _, w0⟩ := DataW.trod_int Try.underlying5 h0
    obtain ⟨a, m, c, xs1, e1, r1⟩ := rdI_cell Try.underlying35 Try.underlying3 cI h1
    obtain ⟨kd, rfl, hk⟩ := ofNat_open rfl w0
    simp at e0
    exact ⟨kd, a, m, c, xs1, by rw [e0, e1], hk, r1⟩

set_option maxRecDepth 100000 in
theorem plc_open {H : Type} {enc : TypeId × Value → H} {W : World} {r : Reach} {b0 : Nat} {v : Value} {d : DataW H} {p : List MemPlace} (hval : Value.okWide Try.prog W r b0 26 v) (h : DataW.Trod enc Try.prog W 0 (fun _ => true) true 26 v d p) :
    ∃ q : PQ, v = .agg (polc q) ∧ PW q := by
  obtain ⟨cs, rfl, hsz⟩ := okWide_struct Try.underlying26 hval
  have h3 : Try.prog.cellsOf 26 = 3 := by kernel_rfl
  have cI : Try.prog.cellsOf 3 = 1 := by kernel_rfl
  have cU : Try.prog.cellsOf 5 = 1 := by kernel_rfl
  rw [h3] at hsz
  obtain ⟨v0, v1, v2, rfl⟩ : ∃ v0 v1 v2, cs = #[v0, v1, v2] := by
    obtain ⟨l⟩ := cs
    match l, hsz with
    | [v0, v1, v2], _ => exact ⟨v0, v1, v2, rfl⟩
  obtain ⟨fuel, hf⟩ := h
  obtain ⟨xs, n, _, _, _, hlen, hfs⟩ := DataW.trod_struct Try.underlying26 hf
  match xs, hlen with
  | [y0, y1, y2], _ =>
    have h0 := hfs 0 _ rfl
    change DataW.trod _ _ _ _ _ _ _ 5 (List.take (Try.prog.cellsOf 5) [v0, v1, v2]) = some y0 at h0
    rw [cU] at h0
    have h1 := hfs 1 _ rfl
    change DataW.trod _ _ _ _ _ _ _ 5 (List.take (Try.prog.cellsOf 5) [v1, v2]) = some y1 at h1
    rw [cU] at h1
    have h2 := hfs 2 _ rfl
    change DataW.trod _ _ _ _ _ _ _ 3 (List.take (Try.prog.cellsOf 3) [v2]) = some y2 at h2
    rw [cI] at h2
    obtain ⟨lu, e0, _, w0⟩ := DataW.trod_int Try.underlying5 h0
    obtain ⟨hu, e1, _, w1⟩ := DataW.trod_int Try.underlying5 h1
    obtain ⟨sk, e2, _, w2⟩ := DataW.trod_int Try.underlying3 h2
    obtain ⟨lo, rfl, hlo⟩ := ofNat_open rfl w0
    obtain ⟨hi, rfl, hhi⟩ := ofNat_open rfl w1
    simp at e0 e1 e2
    exact ⟨⟨lo, hi, sk⟩, by rw [e0, e1, e2], hlo, hhi, bounds_i64 w2⟩

end Go.Proofs.Ythpjnbnheagpiaa
/- How an argument that is a slice of ballots reads. No condition. -/
namespace Go.Proofs.Ythpjnbnheagpiaa
open Go.ChangeShapes Go.WideShapes Go.ChangeAt Go.RowKit Go.Suf Go.Deep
set_option linter.unusedVariables false
set_option linter.unusedSimpArgs false

instance : Inhabited BQ := ⟨⟨0, []⟩⟩

theorem bal_cell {H : Type} {enc : TypeId × Value → H} {W : World} {cs : List Value} {fuel : Nat} {x : DataW H × List MemPlace} (hl : cs.length = 2) (hf : DataW.trod enc Try.prog W 0 (fun _ => true) true fuel 37 cs = some x) :
    ∃ (v : BQ) (u0 u1 : Value), cs = [u0, u1] ∧ balE W v u0 u1 ∧ u0.oneCell' = true ∧ u1.oneCell' = true := by
  have cS : Try.prog.cellsOf 35 = 1 := by kernel_rfl
  have cI : Try.prog.cellsOf 3 = 1 := by kernel_rfl
  have cU : Try.prog.cellsOf 5 = 1 := by kernel_rfl
  obtain ⟨v0, v1, rfl⟩ : ∃ v0 v1, cs = [v0, v1] := by
    match cs, hl with
    | [v0, v1], _ => exact ⟨v0, v1, rfl⟩
  obtain ⟨xs, n, _, _, _, hlen, hfs⟩ := DataW.trod_struct Try.underlying37 hf
  match xs, hlen with
  | [y0, y1], _ =>
    have h0 := hfs 0 _ rfl
    change DataW.trod _ _ _ _ _ _ _ 5 (List.take (Try.prog.cellsOf 5) [v0, v1]) = some y0 at h0
    rw [cU] at h0
    have h1 := hfs 1 _ rfl
    change DataW.trod _ _ _ _ _ _ _ 35 (List.take (Try.prog.cellsOf 35) [v1]) = some y1 at h1
    rw [cS] at h1
    obtain ⟨ku, e0, _, w0⟩ := DataW.trod_int Try.underlying5 h0
    obtain ⟨a, m, c, xs1, e1, r1⟩ := rdI_cell Try.underlying35 Try.underlying3 cI h1
    obtain ⟨kd, rfl, hk⟩ := ofNat_open rfl w0
    simp at e0
    subst e0
    subst e1
    exact ⟨⟨kd, xs1⟩, _, _, rfl, ⟨rfl, hk, a, m, c, rfl, r1⟩, rfl, rfl⟩

theorem bals_open {H : Type} {enc : TypeId × Value → H} {W : World} {a : Option Addr} {n cap : Nat} {d : DataW H} {p : List MemPlace} (h : DataW.Trod enc Try.prog W 0 (fun _ => true) true 27 (.slice a n cap) d p) : ∃ l, RdQ W a n cap l := by
  have c58 : Try.prog.cellsOf 37 = 2 := by kernel_rfl
  obtain ⟨fuel, hf⟩ := h
  rcases open_slice Try.underlying27 hf with ⟨hcs, _⟩ | ⟨x, len, c, m, f, D, Pl, hcs, hb, hl, hm, hmm, hd, hx⟩
  · simp [Value.cells] at hcs
    obtain ⟨rfl, rfl, rfl⟩ := hcs
    exact ⟨[], Rd2.nils _ _⟩
  · simp [Value.cells] at hcs
    obtain ⟨rfl, rfl, rfl⟩ := hcs
    simp only [if_true] at hmm
    have hmc : m = cap := by omega
    subst hmc
    rw [c58] at hx
    have each : ∀ r, r < m → ∃ v : BQ, ∃ u0 u1, balE W v u0 u1 ∧ u0.oneCell' = true ∧ u1.oneCell' = true ∧ ∀ j u, ([u0, u1] : List Value)[j]? = some u → W.cell? ((x.add (r * 2)).add j) = some u := by
      intro r hr
      obtain ⟨cs', h1, h2⟩ := hx r hr
      obtain ⟨_, hlen, hcell⟩ := World.cells?_some h1
      obtain ⟨v, u0, u1, rfl, g1, g2, g3⟩ := bal_cell hlen h2
      refine ⟨v, u0, u1, g1, g2, g3, fun j u hu => ?_⟩
      rw [hcell j (by have := (List.getElem?_eq_some_iff.1 hu).1; simpa using this)]
      exact hu
    obtain ⟨y, hy⟩ := choose_lt each
    by_cases hn : n = 0
    · subst hn
      exact ⟨[], rfl, Nat.zero_le _, hm, fun hh => by simp at hh, fun i z hz => by simp at hz⟩
    · obtain ⟨b, off, spot⟩ := x
      have hspot : spot = none := by
        obtain ⟨u0, u1, _, _, _, hc⟩ := hy 0 (by omega)
        have := World.cell?_spot (hc 0 _ rfl)
        simpa [Addr.add] using this
      subst hspot
      refine ⟨(List.range n).map y, by simp, hl, hm, fun hh => by simp at hh, fun i z hz => ?_⟩
      have hi : i < n := by
        have := (List.getElem?_eq_some_iff.1 hz).1
        simpa using this
      have hz2 : z = y i := by
        rw [List.getElem?_map, List.getElem?_range hi] at hz
        exact (Option.some.inj hz).symm
      subst hz2
      obtain ⟨u0, u1, g1, g2, g3, hc⟩ := hy i (by omega)
      have hadd : ∀ j, ((⟨b, off, none⟩ : Addr).add (i * 2)).add j = ⟨b, off + i * 2 + j, none⟩ := fun j => by
        have h1 : ∀ k o, (⟨b, o, none⟩ : Addr).add k = ⟨b, o + k, none⟩ := fun k o => by unfold Addr.add; split <;> simp_all
        rw [h1, h1]
      have e0 := hc 0 _ rfl
      have e1 := hc 1 _ rfl
      rw [hadd] at e0 e1
      exact ⟨b, off, u0, u1, rfl, e0, e1, g1, g2, g3⟩

end Go.Proofs.Ythpjnbnheagpiaa
