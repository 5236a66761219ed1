/- How an argument of a law reads: what the form's reading gives, in this seat's own predicates. No condition. -/
import Derived.Test.YtlfempfhohejiaaBase
import Derived.ProofKit
import Derived.OpenShut
import Derived.ShutString
import Derived.ChangeOld
namespace Go.Suf
open Go.ChangeShapes Go.WideShapes Go.ChangeAt Go.RowKit

def unsig : IntKind → Bool
  | .u8 | .u16 | .u32 | .u64 => true
  | _ => false

theorem unsig_bounds {k : IntKind} (hk : unsig k = true) {n : Int} (h : (Lit.int k n).wf = true) : 0 ≤ n ∧ n < (lim k : Int) := by
  cases k <;> simp [unsig] at hk
  · have := bounds_u8 h; simp [lim]; omega
  · have := bounds_u16 h; simp [lim]; omega
  · have := bounds_u32 h; simp [lim]; omega
  · have := bounds_u64 h; simp [lim]; omega

/-- A slice of unsigned integers that came in. -/
theorem rd_open {H : Type} {enc : TypeId × Value → H} {P : Program} {W : World} {t e : TypeId} {k : IntKind} {a : Option Addr} {n cap : Nat} {d : DataW H} {p : List MemPlace} (ht : P.underlying t = some (.slice e)) (he : P.underlying e = some (.int k)) (hc : P.cellsOf e = 1) (hk : unsig k = true)
    (h : DataW.Trod enc P W 0 (fun _ => true) true t (.slice a n cap) d p) : ∃ xs, Rd k W a n cap xs := by
  obtain ⟨fuel, hf⟩ := h
  rcases open_ints ht he hc hf with ⟨hcs, _⟩ | ⟨x, l, c, zs, hcs, _, hl, hm, hz, _, hcell, hwz⟩
  · simp [Value.cells] at hcs
    obtain ⟨rfl, rfl, rfl⟩ := hcs
    exact ⟨[], Rd.nil _ _⟩
  · simp [Value.cells] at hcs
    obtain ⟨rfl, rfl, rfl⟩ := hcs
    have hz' : zs.length = cap := by simpa using hz
    have hlen : ((zs.take n).map Int.toNat).length = n := by simp; omega
    refine ⟨(zs.take n).map Int.toNat, hlen, ⟨by simp; omega, hm, fun e => by simp at e, fun i v hv => ?_, nums_one _ _⟩, fun y hy => ?_⟩
    · have hi : i < n := by
        rcases Nat.lt_or_ge i n with h | h
        · exact h
        · rw [List.getElem?_eq_none (by simp; omega)] at hv; simp at hv
      rw [nums_at _ _ _ (by omega)] at hv
      simp only [Option.some.injEq] at hv
      subst hv
      have hcl := hcell i (by omega)
      have hb := unsig_bounds hk (hwz (zs[i]'(by omega)) (List.getElem_mem _))
      obtain ⟨b, off, spot⟩ := x
      have hspot : spot = none := by
        have := World.cell?_spot (hcell 0 (by omega))
        simpa [Addr.add] using this
      subst hspot
      refine ⟨b, off, rfl, ?_⟩
      have hadd : (⟨b, off, none⟩ : Addr).add i = ⟨b, off + i, none⟩ := by unfold Addr.add; split <;> simp_all
      rw [hadd] at hcl
      rw [hcl]
      simp [nth, hi, show i < zs.length by omega]
      omega
    · rw [List.mem_map] at hy
      obtain ⟨z, hzm, rfl⟩ := hy
      have hb := unsig_bounds hk (hwz z (List.mem_of_mem_take hzm))
      omega

/-- A slice of unsigned integers that came in, as a value whose shape is not known yet. -/
theorem rd_cell {H : Type} {enc : TypeId × Value → H} {P : Program} {W : World} {t e : TypeId} {k : IntKind} {v : Value} {fuel : Nat} {x : DataW H × List MemPlace} (ht : P.underlying t = some (.slice e)) (he : P.underlying e = some (.int k)) (hc : P.cellsOf e = 1) (hk : unsig k = true)
    (hf : DataW.trod enc P W 0 (fun _ => true) true fuel t [v] = some x) : ∃ a n cap xs, v = .slice a n cap ∧ Rd k W a n cap xs := by
  have key : ∃ a n cap, v = .slice a n cap := by
    rcases open_ints ht he hc hf with ⟨hcs, _⟩ | ⟨x, l, c, zs, hcs, _⟩
    · simp at hcs
      exact ⟨_, _, _, hcs⟩
    · simp at hcs
      exact ⟨_, _, _, hcs⟩
  obtain ⟨a, n, cap, rfl⟩ := key
  have h : DataW.Trod enc P W 0 (fun _ => true) true t (.slice a n cap) x.1 x.2 := ⟨fuel, by simpa [Value.cells] using hf⟩
  obtain ⟨xs, hxs⟩ := rd_open ht he hc hk h
  exact ⟨a, n, cap, xs, rfl, hxs⟩

theorem ofNat_open {k : IntKind} (hk : unsig k = true) {n : Int} (h : (Lit.int k n).wf = true) : ∃ m : Nat, n = (m : Int) ∧ m < lim k := by
  have := unsig_bounds hk h
  exact ⟨n.toNat, by omega, by omega⟩

end Go.Suf
