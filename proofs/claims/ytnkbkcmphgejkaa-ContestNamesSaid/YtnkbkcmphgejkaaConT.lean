/- What the laws about contests lean on: blocks that hold a contest. No condition. -/
import Derived.Test.YtnkbkcmphgejkaaConQ
import Derived.Test.YtnkbkcmphgejkaaConS
import Derived.Test.YtnkbkcmphgejkaaConK
import Derived.Test.YtnkbkcmphgejkaaConJ
import Derived.Test.YtnkbkcmphgejkaaConO
namespace Go.Proofs.Ytnkbkcmphgejkaa
open Go.RowKit Go.Suf
set_option linter.unusedVariables false
set_option linter.unusedSimpArgs false

/-- The block k holds these cells since w. -/
structure Has (w w1 : World) (k : Nat) (cs : Array Value) : Prop where
  below : Below w.heap.size w w1
  cell : ∀ i v, cs[i]? = some v → w1.cell? ⟨k, i, none⟩ = some v
  lt : k < w1.heap.size

theorem Has.new (w : World) (cs : Array Value) (t : TypeId) : Has w (w.alloc (.cells cs t)) w.heap.size cs :=
  ⟨(Below.refl _ _).alloc (Nat.le_refl _) _, fun i v h => (PRow.new t w cs).cell i v h, by rw [World.size_alloc]; omega⟩

theorem Has.later {w w1 w2 : World} {k : Nat} {cs : Array Value} (h : Has w w1 k cs) (hb : Below w1.heap.size w1 w2) : Has w w2 k cs :=
  ⟨h.below.trans (hb.mono h.below.size), fun i v hv => cell_below hb (h.cell i v hv), Nat.lt_of_lt_of_le h.lt hb.size⟩

theorem eqS_self (s : ByteArray) : eqS s s = true := eqS_iff.2 rfl

theorem same_self (nm : ByteArray) (ss : List ByteArray) (seats : Int) (rule : Nat) : sameC nm ss seats rule nm ss seats rule = true := by
  simp [sameC, eqS_self]

theorem great_le {nm : ByteArray} {ss : List ByteArray} (h : greatC nm ss = false) : ss.length ≤ 100 := by
  simp [greatC] at h
  omega

theorem seats_of_check {nm : ByteArray} {ss : List ByteArray} {seats : Int} {rule : Nat} (h : checkC nm ss seats rule = 0) : (seats.toNat : Int) = seats ∧ seats.toNat < 256 := by
  obtain ⟨_, _, h1, h2, _⟩ := check_ok h
  constructor <;> omega

theorem PRow.has {t : TypeId} {w w1 : World} {k : Nat} {cs : Array Value} (h : PRow t w w1 k cs) : Has w w1 k cs := ⟨h.below, fun i v hv => h.cell i v hv, h.lt⟩

end Go.Proofs.Ytnkbkcmphgejkaa
namespace Go.Suf
open Go.RowKit Go.Suf
open Go.Proofs.Ytnkbkcmphgejkaa
set_option linter.unusedVariables false
set_option linter.unusedSimpArgs false
theorem OwS.setK {base k i : Nat} {w : World} {a : Option Addr} {n cap : Nat} {ss : List ByteArray} {cs : Array Value} (h : OwS 9 base w a n cap ss) (hr : w.heap[k]? = some (.cells cs 40 (0, 0))) (u : Value) : OwS 9 base (w.setCell ⟨k, i, none⟩ u) a n cap ss :=
  ⟨h.len, own_keepE (p := fun t => t ≠ 40) (by decide) (keepE_store hr u) h.own⟩
end Go.Suf
namespace Go.Proofs.Ytnkbkcmphgejkaa
open Go.RowKit Go.Suf
set_option linter.unusedVariables false
set_option linter.unusedSimpArgs false
theorem PRow.grownS {base : Nat} {w w1 w2 : World} {k m : Nat} {cs : Array Value} {v : Value} {vs : List Value} (h : PRow 40 w w1 k cs) (hv : w1.ownsRow base 9 1 v m vs) (hg : w1.grownBy w2 v.ownBlock) (hb : Below w.heap.size w1 w2) : PRow 40 w w2 k cs :=
  ⟨h.below.trans hb, keepE_grown hv hg _ _ _ _ (by decide) h.row, h.lo, Nat.lt_of_lt_of_le h.lt hb.size⟩

/-- The name is good as far as its first i bytes tell. -/
def goodC (s : ByteArray) (i : Nat) : Bool := decide (1 ≤ s.size) && decide (s.size ≤ 40) && (List.range i).all fun k => !badC (nth (byts s) k)

theorem good_step (s : ByteArray) (i : Nat) : goodC s (i + 1) = (goodC s i && !badC (nth (byts s) i)) := by
  simp [goodC, List.range_succ, Bool.and_assoc]

theorem byts_len (s : ByteArray) : (byts s).length = s.size := by simp [byts]

theorem good_all (s : ByteArray) : goodC s s.size = !oddS s := by
  have e : ((List.range s.size).all fun k => !badC (nth (byts s) k)) = !((byts s).any badC) := by
    cases h : (byts s).any badC with
    | true =>
      obtain ⟨x, hx, hb⟩ := List.any_eq_true.1 h
      obtain ⟨k, hk, rfl⟩ := List.getElem_of_mem hx
      rw [Bool.not_true, List.all_eq_false]
      refine ⟨k, List.mem_range.2 (by rw [← byts_len]; exact hk), ?_⟩
      have : nth (byts s) k = (byts s)[k] := by simp [nth, List.getD_eq_getElem?_getD, List.getElem?_eq_getElem hk]
      simpa [this] using hb
    | false =>
      rw [Bool.not_false, List.all_eq_true]
      intro k hk
      have hk' := List.mem_range.1 hk
      rw [← byts_len] at hk'
      have : nth (byts s) k = (byts s)[k] := by simp [nth, List.getD_eq_getElem?_getD, List.getElem?_eq_getElem hk']
      rw [List.any_eq_false] at h
      have := h _ (List.getElem_mem hk')
      simp_all
  unfold goodC oddS
  rw [e]
  by_cases h1 : s.size = 0
  · simp [h1]
  · by_cases h2 : 40 < s.size
    · simp [h1, h2, show ¬ s.size ≤ 40 by omega]
    · simp [h1, h2, show 1 ≤ s.size by omega, show s.size ≤ 40 by omega]

end Go.Proofs.Ytnkbkcmphgejkaa
