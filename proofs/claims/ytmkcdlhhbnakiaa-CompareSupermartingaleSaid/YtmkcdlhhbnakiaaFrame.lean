/- How an argument of a law reads: what the form's reading gives, in this seat's own predicates. No condition. -/
import Derived.Test.YtmkcdlhhbnakiaaBase
import Derived.ProofKit
import Derived.OpenShut
import Derived.ShutString
import Derived.ChangeOld
import Derived.Test.YtmkcdlhhbnakiaaRatPlain
import Derived.Test.YtmkcdlhhbnakiaaCmpPlain
import Derived.Test.YtmkcdlhhbnakiaaCmpV
namespace Go.Suf
open Go.ChangeShapes Go.WideShapes Go.ChangeAt Go.RowKit

def unsig : IntKind → Bool
  | .u8 | .u16 | .u32 | .u64 => true
  | _ => false

theorem unsig_bounds {k : IntKind} (hk : unsig k = true) {n : Int} (h : (Lit.int k n).wf = true) : 0 ≤ n ∧ n < (lim k : Int) := by
  cases k <;> simp [unsig] at hk
  · have := bounds_u8 h; simp [lim]; omega
  · have := bounds_u16 h; simp [lim]; omega
  · have := bounds_u32 h; simp [lim]; omega
  · have := bounds_u64 h; simp [lim]; omega

/-- A slice of unsigned integers that came in. -/
theorem rd_open {H : Type} {enc : TypeId × Value → H} {P : Program} {W : World} {t e : TypeId} {k : IntKind} {a : Option Addr} {n cap : Nat} {d : DataW H} {p : List MemPlace} (ht : P.underlying t = some (.slice e)) (he : P.underlying e = some (.int k)) (hc : P.cellsOf e = 1) (hk : unsig k = true)
    (h : DataW.Trod enc P W 0 (fun _ => true) true t (.slice a n cap) d p) : ∃ xs, Rd k W a n cap xs := by
  obtain ⟨fuel, hf⟩ := h
  rcases open_ints ht he hc hf with ⟨hcs, _⟩ | ⟨x, l, c, zs, hcs, _, hl, hm, hz, _, hcell, hwz⟩
  · simp [Value.cells] at hcs
    obtain ⟨rfl, rfl, rfl⟩ := hcs
    exact ⟨[], Rd.nil _ _⟩
  · simp [Value.cells] at hcs
    obtain ⟨rfl, rfl, rfl⟩ := hcs
    have hz' : zs.length = cap := by simpa using hz
    have hlen : ((zs.take n).map Int.toNat).length = n := by simp; omega
    refine ⟨(zs.take n).map Int.toNat, hlen, ⟨by simp; omega, hm, fun e => by simp at e, fun i v hv => ?_, nums_one _ _⟩, fun y hy => ?_⟩
    · have hi : i < n := by
        rcases Nat.lt_or_ge i n with h | h
        · exact h
        · rw [List.getElem?_eq_none (by simp; omega)] at hv; simp at hv
      rw [nums_at _ _ _ (by omega)] at hv
      simp only [Option.some.injEq] at hv
      subst hv
      have hcl := hcell i (by omega)
      have hb := unsig_bounds hk (hwz (zs[i]'(by omega)) (List.getElem_mem _))
      obtain ⟨b, off, spot⟩ := x
      have hspot : spot = none := by
        have := World.cell?_spot (hcell 0 (by omega))
        simpa [Addr.add] using this
      subst hspot
      refine ⟨b, off, rfl, ?_⟩
      have hadd : (⟨b, off, none⟩ : Addr).add i = ⟨b, off + i, none⟩ := by unfold Addr.add; split <;> simp_all
      rw [hadd] at hcl
      rw [hcl]
      simp [nth, hi, show i < zs.length by omega]
      omega
    · rw [List.mem_map] at hy
      obtain ⟨z, hzm, rfl⟩ := hy
      have hb := unsig_bounds hk (hwz z (List.mem_of_mem_take hzm))
      omega

/-- A slice of unsigned integers that came in, as a value whose shape is not known yet. -/
theorem rd_cell {H : Type} {enc : TypeId × Value → H} {P : Program} {W : World} {t e : TypeId} {k : IntKind} {v : Value} {fuel : Nat} {x : DataW H × List MemPlace} (ht : P.underlying t = some (.slice e)) (he : P.underlying e = some (.int k)) (hc : P.cellsOf e = 1) (hk : unsig k = true)
    (hf : DataW.trod enc P W 0 (fun _ => true) true fuel t [v] = some x) : ∃ a n cap xs, v = .slice a n cap ∧ Rd k W a n cap xs := by
  have key : ∃ a n cap, v = .slice a n cap := by
    rcases open_ints ht he hc hf with ⟨hcs, _⟩ | ⟨x, l, c, zs, hcs, _⟩
    · simp at hcs
      exact ⟨_, _, _, hcs⟩
    · simp at hcs
      exact ⟨_, _, _, hcs⟩
  obtain ⟨a, n, cap, rfl⟩ := key
  have h : DataW.Trod enc P W 0 (fun _ => true) true t (.slice a n cap) x.1 x.2 := ⟨fuel, by simpa [Value.cells] using hf⟩
  obtain ⟨xs, hxs⟩ := rd_open ht he hc hk h
  exact ⟨a, n, cap, xs, rfl, hxs⟩

theorem ofNat_open {k : IntKind} (hk : unsig k = true) {n : Int} (h : (Lit.int k n).wf = true) : ∃ m : Nat, n = (m : Int) ∧ m < lim k := by
  have := unsig_bounds hk h
  exact ⟨n.toNat, by omega, by omega⟩

end Go.Suf
/- How an argument that is a rational number reads. No condition. -/
namespace Go.Proofs.Ytmkcdlhhbnakiaa
open Go.ChangeShapes Go.WideShapes Go.ChangeAt Go.RowKit Go.Suf
set_option linter.unusedVariables false
set_option linter.unusedSimpArgs false

set_option maxRecDepth 100000 in
theorem rat_open {H : Type} {enc : TypeId × Value → H} {W : World} {r : Reach} {b0 : Nat} {v : Value} {d : DataW H} {p : List MemPlace} (hval : Value.okWide Try.prog W r b0 34 v) (h : DataW.Trod enc Try.prog W 0 (fun _ => true) true 34 v d p) :
    ∃ g a n c b m d xs ys, v = ratV g a n c b m d ∧ Rd .u32 W a n c xs ∧ Rd .u32 W b m d ys := by
  obtain ⟨cs, rfl, hsz⟩ := okWide_struct Try.underlying34 hval
  have h3 : Try.prog.cellsOf 34 = 3 := by kernel_rfl
  have cB : Try.prog.cellsOf 4 = 1 := by kernel_rfl
  have cS : Try.prog.cellsOf 23 = 1 := by kernel_rfl
  have cU : Try.prog.cellsOf 68 = 1 := by kernel_rfl
  rw [h3] at hsz
  obtain ⟨v0, v1, v2, rfl⟩ : ∃ v0 v1 v2, cs = #[v0, v1, v2] := by
    obtain ⟨l⟩ := cs
    match l, hsz with
    | [v0, v1, v2], _ => exact ⟨v0, v1, v2, rfl⟩
  obtain ⟨fuel, hf⟩ := h
  obtain ⟨xs, n, _, _, _, hlen, hfs⟩ := DataW.trod_struct Try.underlying34 hf
  match xs, hlen with
  | [y0, y1, y2], _ =>
    have h0 := hfs 0 _ rfl
    change DataW.trod _ _ _ _ _ _ _ 4 (List.take (Try.prog.cellsOf 4) [v0, v1, v2]) = some y0 at h0
    rw [cB] at h0
    have h1 := hfs 1 _ rfl
    change DataW.trod _ _ _ _ _ _ _ 23 (List.take (Try.prog.cellsOf 23) [v1, v2]) = some y1 at h1
    rw [cS] at h1
    have h2 := hfs 2 _ rfl
    change DataW.trod _ _ _ _ _ _ _ 23 (List.take (Try.prog.cellsOf 23) [v2]) = some y2 at h2
    rw [cS] at h2
    obtain ⟨g, e0, _⟩ := DataW.trod_bool Try.underlying4 h0
    obtain ⟨a, m, c, xs1, e1, r1⟩ := rd_cell Try.underlying23 Try.underlying68 cU rfl h1
    obtain ⟨b, k, d, xs2, e2, r2⟩ := rd_cell Try.underlying23 Try.underlying68 cU rfl h2
    simp at e0
    exact ⟨g, a, m, c, b, k, d, xs1, xs2, by rw [e0, e1, e2], r1, r2⟩

end Go.Proofs.Ytmkcdlhhbnakiaa
/- How an argument that is a state of a comparison audit reads, and a slice of integers. No condition. Printed by gen_frameq.py. -/
namespace Go.Suf
open Go.ChangeShapes Go.WideShapes Go.ChangeAt Go.RowKit
set_option linter.unusedVariables false
set_option linter.unusedSimpArgs false

/-- A slice of int that came in. -/
theorem rdI_open {H : Type} {enc : TypeId × Value → H} {P : Program} {W : World} {t e : TypeId} {a : Option Addr} {n cap : Nat} {d : DataW H} {p : List MemPlace} (ht : P.underlying t = some (.slice e)) (he : P.underlying e = some (.int .i64)) (hc : P.cellsOf e = 1)
    (h : DataW.Trod enc P W 0 (fun _ => true) true t (.slice a n cap) d p) : ∃ xs, RdI W a n cap xs := by
  obtain ⟨fuel, hf⟩ := h
  rcases open_ints ht he hc hf with ⟨hcs, _⟩ | ⟨x, l, c, zs, hcs, _, hl, hm, hz, _, hcell, hwz⟩
  · simp [Value.cells] at hcs
    obtain ⟨rfl, rfl, rfl⟩ := hcs
    exact ⟨[], RdI.nil _⟩
  · simp [Value.cells] at hcs
    obtain ⟨rfl, rfl, rfl⟩ := hcs
    have hz' : zs.length = cap := by simpa using hz
    have hlen : (zs.take n).length = n := by simp; omega
    refine ⟨zs.take n, hlen, ⟨by rw [intsV_size]; simp; omega, hm, fun e => by simp at e, fun i v hv => ?_, intsV_one _⟩, fun y hy => ?_⟩
    · have hi : i < n := by
        rcases Nat.lt_or_ge i n with h | h
        · exact h
        · rw [intsV_get, List.getElem?_eq_none (by omega)] at hv; simp at hv
      have hcl := hcell i (by omega)
      rw [intsV_get, List.getElem?_take_of_lt hi, List.getElem?_eq_getElem (by omega)] at hv
      simp only [Option.map_some, Option.some.injEq] at hv
      subst hv
      obtain ⟨b, off, spot⟩ := x
      have hspot : spot = none := by
        have := World.cell?_spot (hcell 0 (by omega))
        simpa [Addr.add] using this
      subst hspot
      refine ⟨b, off, rfl, ?_⟩
      have hadd : (⟨b, off, none⟩ : Addr).add i = ⟨b, off + i, none⟩ := by unfold Addr.add; split <;> simp_all
      rw [hadd] at hcl
      rw [hcl]
      simp [show i < zs.length by omega]
    · have hb := bounds_i64 (hwz y (List.mem_of_mem_take hy))
      exact hb

/-- An array of 5 cells. -/
theorem trod_array5 {H : Type} {enc : TypeId × Value → H} {P : Program} {w : World} {base : Nat} {spare : Nat → Bool} {held : Bool} {t e : TypeId} {fuel : Nat} {c0 c1 c2 c3 c4 : Value} {x : DataW H × List MemPlace} (ht : P.underlying t = some (.array 5 e)) (hce : P.cellsOf e = 1)
    (h : DataW.trod enc P w base spare held fuel t [c0, c1, c2, c3, c4] = some x) :
    ∃ y0 y1 y2 y3 y4 n, DataW.trod enc P w base spare held n e [c0] = some y0 ∧ DataW.trod enc P w base spare held n e [c1] = some y1 ∧ DataW.trod enc P w base spare held n e [c2] = some y2 ∧ DataW.trod enc P w base spare held n e [c3] = some y3 ∧ DataW.trod enc P w base spare held n e [c4] = some y4 := by
  cases fuel with
  | zero => simp [DataW.trod] at h
  | succ n =>
    unfold DataW.trod at h
    rw [ht] at h
    have rr : List.range 5 = [0, 1, 2, 3, 4] := rfl
    simp [rr, hce] at h
    obtain ⟨_, h⟩ := h
    cases h0 : DataW.trod enc P w base spare held n e [c0] with
    | none => simp [h0] at h
    | some y0 =>
      cases h1 : DataW.trod enc P w base spare held n e [c1] with
      | none => simp [h0, h1] at h
      | some y1 =>
        cases h2 : DataW.trod enc P w base spare held n e [c2] with
        | none => simp [h0, h1, h2] at h
        | some y2 =>
          cases h3 : DataW.trod enc P w base spare held n e [c3] with
          | none => simp [h0, h1, h2, h3] at h
          | some y3 =>
            cases h4 : DataW.trod enc P w base spare held n e [c4] with
            | none => simp [h0, h1, h2, h3, h4] at h
            | some y4 =>
              exact ⟨y0, y1, y2, y3, y4, n, h0, h1, h2, h3, h4⟩
end Go.Suf
namespace Go.Proofs.Ytmkcdlhhbnakiaa
open Go.ChangeShapes Go.WideShapes Go.ChangeAt Go.RowKit Go.Suf
set_option linter.unusedVariables false
set_option linter.unusedSimpArgs false

set_option maxRecDepth 100000 in
theorem arr5_cells {H : Type} {enc : TypeId × Value → H} {W : World} {v0 v1 v2 v3 v4 : Value} {fuel : Nat} {x : DataW H × List MemPlace} (hf : DataW.trod enc Try.prog W 0 (fun _ => true) true fuel 22 [v0, v1, v2, v3, v4] = some x) :
    ∃ z0 z1 z2 z3 z4, v0 = .int .i64 z0 ∧ v1 = .int .i64 z1 ∧ v2 = .int .i64 z2 ∧ v3 = .int .i64 z3 ∧ v4 = .int .i64 z4 ∧ wide64 z0 ∧ wide64 z1 ∧ wide64 z2 ∧ wide64 z3 ∧ wide64 z4 := by
  have cI : Try.prog.cellsOf 3 = 1 := by kernel_rfl
  obtain ⟨y0, y1, y2, y3, y4, n, h0, h1, h2, h3, h4⟩ := trod_array5 Try.underlying22 cI hf
  obtain ⟨z0, e0, _, w0⟩ := DataW.trod_int Try.underlying3 h0
  obtain ⟨z1, e1, _, w1⟩ := DataW.trod_int Try.underlying3 h1
  obtain ⟨z2, e2, _, w2⟩ := DataW.trod_int Try.underlying3 h2
  obtain ⟨z3, e3, _, w3⟩ := DataW.trod_int Try.underlying3 h3
  obtain ⟨z4, e4, _, w4⟩ := DataW.trod_int Try.underlying3 h4
  simp at e0 e1 e2 e3 e4
  exact ⟨z0, z1, z2, z3, z4, e0, e1, e2, e3, e4, bounds_i64 w0, bounds_i64 w1, bounds_i64 w2, bounds_i64 w3, bounds_i64 w4⟩

set_option maxRecDepth 100000 in
theorem cm_open {H : Type} {enc : TypeId × Value → H} {W : World} {r : Reach} {b0 : Nat} {v : Value} {d : DataW H} {p : List MemPlace} (hval : Value.okWide Try.prog W r b0 25 v) (h : DataW.Trod enc Try.prog W 0 (fun _ => true) true 25 v d p) :
    ∃ q a n c b m d, v = cmV q a n c b m d ∧ Rd .u32 W a n c q.lev ∧ Rd .u32 W b m d q.best ∧ CW q := by
  obtain ⟨cs, rfl, hsz⟩ := okWide_struct Try.underlying25 hval
  have h10 : Try.prog.cellsOf 25 = 10 := by kernel_rfl
  have cI : Try.prog.cellsOf 3 = 1 := by kernel_rfl
  have cA : Try.prog.cellsOf 22 = 5 := by kernel_rfl
  have cS : Try.prog.cellsOf 23 = 1 := by kernel_rfl
  have cU : Try.prog.cellsOf 68 = 1 := by kernel_rfl
  rw [h10] at hsz
  obtain ⟨v0, v1, v2, v3, v4, v5, v6, v7, v8, v9, rfl⟩ : ∃ v0 v1 v2 v3 v4 v5 v6 v7 v8 v9, cs = #[v0, v1, v2, v3, v4, v5, v6, v7, v8, v9] := by
    obtain ⟨l⟩ := cs
    match l, hsz with
    | [v0, v1, v2, v3, v4, v5, v6, v7, v8, v9], _ => exact ⟨v0, v1, v2, v3, v4, v5, v6, v7, v8, v9, rfl⟩
  obtain ⟨fuel, hf⟩ := h
  obtain ⟨xs, n, _, _, _, hlen, hfs⟩ := DataW.trod_struct Try.underlying25 hf
  match xs, hlen with
  | [y0, y1, y2, y3, y4, y5], _ =>
    have h0 := hfs 0 _ rfl
    change DataW.trod _ _ _ _ _ _ _ 3 (List.take (Try.prog.cellsOf 3) [v0, v1, v2, v3, v4, v5, v6, v7, v8, v9]) = some y0 at h0
    rw [cI] at h0
    have h1 := hfs 1 _ rfl
    change DataW.trod _ _ _ _ _ _ _ 3 (List.take (Try.prog.cellsOf 3) [v1, v2, v3, v4, v5, v6, v7, v8, v9]) = some y1 at h1
    rw [cI] at h1
    have h2 := hfs 2 _ rfl
    change DataW.trod _ _ _ _ _ _ _ 3 (List.take (Try.prog.cellsOf 3) [v2, v3, v4, v5, v6, v7, v8, v9]) = some y2 at h2
    rw [cI] at h2
    have h3 := hfs 3 _ rfl
    change DataW.trod _ _ _ _ _ _ _ 22 (List.take (Try.prog.cellsOf 22) [v3, v4, v5, v6, v7, v8, v9]) = some y3 at h3
    rw [cA] at h3
    have h4 := hfs 4 _ rfl
    change DataW.trod _ _ _ _ _ _ _ 23 (List.take (Try.prog.cellsOf 23) [v8, v9]) = some y4 at h4
    rw [cS] at h4
    have h5 := hfs 5 _ rfl
    change DataW.trod _ _ _ _ _ _ _ 23 (List.take (Try.prog.cellsOf 23) [v9]) = some y5 at h5
    rw [cS] at h5
    obtain ⟨zb, e0, _, wb⟩ := DataW.trod_int Try.underlying3 h0
    obtain ⟨zn, e1, _, wn⟩ := DataW.trod_int Try.underlying3 h1
    obtain ⟨zm, e2, _, wm⟩ := DataW.trod_int Try.underlying3 h2
    obtain ⟨z0, z1, z2, z3, z4, rfl, rfl, rfl, rfl, rfl, w0, w1, w2, w3, w4⟩ := arr5_cells h3
    obtain ⟨a, m, c, xs1, e4, r1⟩ := rd_cell Try.underlying23 Try.underlying68 cU rfl h4
    obtain ⟨b, k, d, xs2, e5, r2⟩ := rd_cell Try.underlying23 Try.underlying68 cU rfl h5
    simp at e0 e1 e2
    refine ⟨⟨zb, zn, zm, z0, z1, z2, z3, z4, xs1, xs2⟩, a, m, c, b, k, d, by rw [e0, e1, e2, e4, e5], r1, r2, bounds_i64 wb, bounds_i64 wn, bounds_i64 wm, w0, w1, w2, w3, w4⟩

end Go.Proofs.Ytmkcdlhhbnakiaa
/- Parts of a slice of integers. -/
namespace Go.Suf
open Go.RowKit
set_option linter.unusedVariables false
set_option linter.unusedSimpArgs false

theorem sliced_rdI {w : World} {a : Option Addr} {n cap : Nat} {xs : List Int} (h : RdI w a n cap xs) (l j m : Nat) (hlj : l ≤ j) (hj : j ≤ n) (hjm : j ≤ m) (hm : m ≤ cap) :
    ∃ a', sliced a l j m 1 = .slice a' (j - l) (m - l) ∧ RdI w a' (j - l) (m - l) ((xs.take j).drop l) := by
  have hl := h.len
  have hmax := h.sl.max
  refine ⟨_, rfl, ?_⟩
  by_cases he : l < j
  · obtain ⟨b, off, rfl, _⟩ := h.addr (by omega)
    rw [if_neg (by omega)]
    have : (⟨b, off, none⟩ : Addr).add (l * 1) = ⟨b, off + l, none⟩ := by unfold Addr.add; split <;> simp_all
    simp only [Option.map_some, this]
    refine ⟨by simp; omega, ?_, fun x hx => h.bd x (List.mem_of_mem_take (List.mem_of_mem_drop hx))⟩
    have hp := h.sl.part l j m hlj (by rw [intsV_size]; omega) hjm hm (off + l) (fun _ => rfl)
    have e : intsV ((xs.take j).drop l) = ((intsV xs).take j).drop l := by simp [intsV, List.map_take, List.map_drop]
    rw [e]
    exact hp
  · obtain rfl : l = j := by omega
    have e : (xs.take l).drop l = [] := List.drop_eq_nil_of_le (by simp; omega)
    rw [e]
    refine ⟨by simp, Sl.empty _ _ _ (by omega) (fun hn => ?_), fun x hx => by simp at hx⟩
    have : a = none := by
      split at hn
      · exact hn
      · simpa using hn
    have := h.sl.nil this
    omega

theorem run_uptoI {P : Program} {w : World} {a1 : Option Addr} {n cap : Nat} {xs : List Int} {t e : TypeId} {z : Value} {bs : Nat} (T : ET P t e z bs) (h : RdI w a1 n cap xs) (j : Nat) (hj : j ≤ n) :
    ∃ a', RdI w a' j cap (xs.take j) ∧ (∀ W, (Instr.sliceAt t (.slice a1 n cap) none (some (.int .i64 (j : Int))) none).run P W = .ok (.slice a' j cap) W) ∧
      (∀ W, (Instr.slice t (.slice a1 n cap) none (some (.int .i64 (j : Int))) none).run P W = .ok (.slice a' j cap) W) := by
  have ht' : P.underlying t = some (.slice (P.elem t)) := by rw [elem_of T]; exact T.ht
  have hle := h.le
  obtain ⟨a', e1, hr⟩ := sliced_rdI h 0 j cap (Nat.zero_le _) hj (by omega) (Nat.le_refl _)
  simp only [Nat.sub_zero, List.drop_zero] at e1 hr
  have hrun : ∀ W, (Instr.slice t (.slice a1 n cap) none (some (.int .i64 (j : Int))) none).run P W = .ok (.slice a' j cap) W := by
    intro W
    rw [run_slice_h W t a1 n cap ht' .i64 j (by omega) (by omega), elem_of T, run_sizeOf1 T]
    simp [e1]
  exact ⟨a', hr, fun W => by rw [run_sliceAt_slice W t _ _ _ _ ht']; exact hrun W, hrun⟩

theorem run_fromI {P : Program} {w : World} {a1 : Option Addr} {n cap : Nat} {xs : List Int} {t e : TypeId} {z : Value} {bs : Nat} (T : ET P t e z bs) (h : RdI w a1 n cap xs) (i : Nat) (hi : i ≤ n) :
    ∃ a', RdI w a' (n - i) (cap - i) (xs.drop i) ∧ (∀ W, (Instr.sliceAt t (.slice a1 n cap) (some (.int .i64 (i : Int))) none none).run P W = .ok (.slice a' (n - i) (cap - i)) W) ∧
      (∀ W, (Instr.slice t (.slice a1 n cap) (some (.int .i64 (i : Int))) none none).run P W = .ok (.slice a' (n - i) (cap - i)) W) := by
  have ht' : P.underlying t = some (.slice (P.elem t)) := by rw [elem_of T]; exact T.ht
  have hle := h.le
  obtain ⟨a', e1, hr⟩ := sliced_rdI h i n cap hi (Nat.le_refl _) (by omega) (Nat.le_refl _)
  rw [List.take_of_length_le (by have := h.len; omega)] at hr
  have hrun : ∀ W, (Instr.slice t (.slice a1 n cap) (some (.int .i64 (i : Int))) none none).run P W = .ok (.slice a' (n - i) (cap - i)) W := by
    intro W
    rw [run_slice_l W t a1 n cap ht' .i64 i (by omega) (by omega), elem_of T, run_sizeOf1 T]
    simp [e1]
  exact ⟨a', hr, fun W => by rw [run_sliceAt_slice W t _ _ _ _ ht']; exact hrun W, hrun⟩
end Go.Suf
namespace Go.Proofs.Ytmkcdlhhbnakiaa
open Go.RowKit Go.Suf
set_option linter.unusedVariables false
set_option linter.unusedSimpArgs false

theorem cell_row {w : World} {k i g : Nat} {v : Value} {cs : Array Value} (h : w.cell? ⟨k, i, none⟩ = some v) (hne : k ≠ g) : (w.setRow g cs).cell? ⟨k, i, none⟩ = some v := by
  simp only [World.cell?, setRow_other _ _ _ _ hne] at *
  exact h

theorem etI : ET Try.prog 53 3 (.int .i64 0) 8 := ⟨Try.underlying53, by kernel_rfl, rfl⟩

end Go.Proofs.Ytmkcdlhhbnakiaa
