/- Add. No condition. -/
import Derived.Test.YtfcejgeckcoefaaNatB
import Derived.Test.YtfcejgeckcoefaaNatLong
import Derived.Test.YtfcejgeckcoefaaMem
namespace Go.Proofs.Ytfcejgeckcoefaa
open Go.RowKit Go.Suf
set_option linter.unusedVariables false
set_option linter.unusedSimpArgs false

/-- New limbs and an error. -/
def RetN (w : World) (r : List Nat × Int) : Ending → World → Prop := fun e w' =>
  ∃ a m c, e = .returned (.tuple #[.slice a m c, .int .i64 r.2]) ∧ Rd .u32 w' a m c r.1 ∧ Below w.heap.size w w'

def addC (xs ys : List Nat) : List Nat × Int := if bothC xs ys = 0 then fitC (val xs + val ys) else ([], bothC xs ys)

theorem bothC_ok {xs ys : List Nat} (h : bothC xs ys = 0) : chk xs = 0 ∧ chk ys = 0 := by
  unfold bothC at h
  split at h
  · exact ⟨‹_›, h⟩
  · exact absurd h ‹_›

end Go.Proofs.Ytfcejgeckcoefaa
