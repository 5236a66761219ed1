/- Rows of decisions beside other rows. No condition. -/
import Derived.Test.YtlfempfhohejiaaSheY
namespace Go.Proofs.Ytlfempfhohejiaa
open Go.RowKit Go.Suf
set_option linter.unusedVariables false
set_option linter.unusedSimpArgs false

theorem OwD.setHi {base g i : Nat} {t : TypeId} {w : World} {a : Option Addr} {n c : Nat} {ds : List DQ} {cs : Array Value} (h : OwD base w a n c ds) (hg : w.heap[g]? = some (.cells cs t (0, 0))) (hne : t ≠ 58) (v : Value) : OwD base (w.setCell ⟨g, i, none⟩ v) a n c ds := by
  refine ⟨h.len, ⟨h.own.1, ?_⟩, h.wf⟩
  rcases h.own.2 with h2 | ⟨b, c2, cur, hv, hb, hh, r⟩
  · exact .inl h2
  · refine .inr ⟨b, c2, cur, hv, hb, (heap_setCell_other w ⟨g, i, none⟩ b v (fun e2 => ?_)).trans hh, r⟩
    have e3 : b = g := e2
    subst e3
    rw [hg] at hh
    simp at hh
    exact hne hh.2
theorem ow_blk {k : IntKind} {e : TypeId} {base g n c : Nat} {w : World} {xs : List Nat} (h : Ow k e base w (some ⟨g, 0, none⟩) n c xs) : base ≤ g ∧ ∃ cs, w.heap[g]? = some (.cells cs e (0, 0)) := by
  rcases h.own.2 with ⟨h2, _⟩ | ⟨b, c2, cur, hv, hb, hh, r⟩
  · cases h2
  · simp at hv
    obtain ⟨rfl, rfl⟩ := hv
    exact ⟨hb, cur, hh⟩
theorem owI_blk {base g n c : Nat} {w : World} {xs : List Int} (h : OwI base w (some ⟨g, 0, none⟩) n c xs) : base ≤ g ∧ ∃ cs, w.heap[g]? = some (.cells cs 3 (0, 0)) := by
  rcases h.own.2 with ⟨h2, _⟩ | ⟨b, c2, cur, hv, hb, hh, r⟩
  · cases h2
  · simp at hv
    obtain ⟨rfl, rfl⟩ := hv
    exact ⟨hb, cur, hh⟩
theorem blk_ne {w : World} {a b : Nat} {c1 c2 : Array Value} {t1 t2 : TypeId} (h1 : w.heap[a]? = some (.cells c1 t1 (0, 0))) (h2 : w.heap[b]? = some (.cells c2 t2 (0, 0))) (hne : t1 ≠ t2) : a ≠ b := by
  rintro rfl
  rw [h1] at h2
  simp at h2
  exact hne h2.2
theorem own_block_neS {base g s : Nat} {e t : TypeId} {w : World} {v : Value} {n : Nat} {xs : List Value} {cs : Array Value} (h : w.ownsRow base e s v n xs) (hg : w.heap[g]? = some (.cells cs t (0, 0))) (hne : t ≠ e) : v.ownBlock ≠ some g := by
  rcases h.2 with ⟨rfl, _⟩ | ⟨b, c, cur, rfl, _, hh, _⟩
  · simp [Value.ownBlock]
  · simp [Value.ownBlock]
    rintro rfl
    rw [hg] at hh
    simp at hh
    exact hne hh.2
theorem PRow.grownS {base s : Nat} {t e : TypeId} {w w1 w2 : World} {k m : Nat} {cs : Array Value} {v : Value} {vs : List Value} (h : PRow t w w1 k cs) (hne : t ≠ e) (hv : w1.ownsRow base e s v m vs) (hg : w1.grownBy w2 v.ownBlock) (hb : Below w.heap.size w1 w2) : PRow t w w2 k cs :=
  ⟨h.below.trans hb, (hg.block k h.lt (fun e2 => own_block_neS hv h.row hne e2.symm)).trans h.row, h.lo, Nat.lt_of_lt_of_le h.lt hb.size⟩
theorem ow_grownS {base base' s m n c : Nat} {k : IntKind} {e e' : TypeId} {w w' : World} {v' : Value} {a : Option Addr} {xs : List Nat} {ys : List Value} (h : Ow k e base w a n c xs) (hv : w.ownsRow base' e' s v' m ys) (hne : e ≠ e') (hg : w.grownBy w' v'.ownBlock) : Ow k e base w' a n c xs := by
  refine ⟨h.len, ⟨h.own.1, ?_⟩, h.bd⟩
  rcases h.own.2 with h2 | ⟨b, cc, cur, hb, hlo, hh, r⟩
  · exact .inl h2
  · exact .inr ⟨b, cc, cur, hb, hlo, (hg.block b (Array.getElem?_eq_some_iff.1 hh).1 (fun e2 => own_block_neS hv hh hne e2.symm)).trans hh, r⟩

end Go.Proofs.Ytlfempfhohejiaa
