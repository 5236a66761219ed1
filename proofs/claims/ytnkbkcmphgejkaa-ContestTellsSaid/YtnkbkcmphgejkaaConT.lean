/- What the laws about contests lean on: blocks that hold a contest. No condition. -/
import Derived.Test.YtnkbkcmphgejkaaConQ
import Derived.Test.YtnkbkcmphgejkaaConS
import Derived.Test.YtnkbkcmphgejkaaConK
import Derived.Test.YtnkbkcmphgejkaaConJ
import Derived.Test.YtnkbkcmphgejkaaConO
namespace Go.Proofs.Ytnkbkcmphgejkaa
open Go.RowKit Go.Suf
set_option linter.unusedVariables false
set_option linter.unusedSimpArgs false

/-- The block k holds these cells since w. -/
structure Has (w w1 : World) (k : Nat) (cs : Array Value) : Prop where
  below : Below w.heap.size w w1
  cell : ∀ i v, cs[i]? = some v → w1.cell? ⟨k, i, none⟩ = some v
  lt : k < w1.heap.size

theorem Has.new (w : World) (cs : Array Value) (t : TypeId) : Has w (w.alloc (.cells cs t)) w.heap.size cs :=
  ⟨(Below.refl _ _).alloc (Nat.le_refl _) _, fun i v h => (PRow.new t w cs).cell i v h, by rw [World.size_alloc]; omega⟩

theorem Has.later {w w1 w2 : World} {k : Nat} {cs : Array Value} (h : Has w w1 k cs) (hb : Below w1.heap.size w1 w2) : Has w w2 k cs :=
  ⟨h.below.trans (hb.mono h.below.size), fun i v hv => cell_below hb (h.cell i v hv), Nat.lt_of_lt_of_le h.lt hb.size⟩

theorem eqS_self (s : ByteArray) : eqS s s = true := eqS_iff.2 rfl

theorem same_self (nm : ByteArray) (ss : List ByteArray) (seats : Int) (rule : Nat) : sameC nm ss seats rule nm ss seats rule = true := by
  simp [sameC, eqS_self]

theorem great_le {nm : ByteArray} {ss : List ByteArray} (h : greatC nm ss = false) : ss.length ≤ 100 := by
  simp [greatC] at h
  omega

theorem seats_of_check {nm : ByteArray} {ss : List ByteArray} {seats : Int} {rule : Nat} (h : checkC nm ss seats rule = 0) : (seats.toNat : Int) = seats ∧ seats.toNat < 256 := by
  obtain ⟨_, _, h1, h2, _⟩ := check_ok h
  constructor <;> omega

end Go.Proofs.Ytnkbkcmphgejkaa
