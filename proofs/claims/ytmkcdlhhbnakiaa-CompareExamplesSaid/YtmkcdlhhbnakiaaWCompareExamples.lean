/- The walk of the law CompareExamples: it returns true and turns nothing that was there. No condition. Printed by gen_cmplaws.py. -/
import Derived.Test.YtmkcdlhhbnakiaaCmpT
import Derived.BigQuiet
import Derived.Deep.CutRange
namespace Go.Proofs.Ytmkcdlhhbnakiaa
open Go.RowKit Go.Suf
set_option linter.unusedVariables false
set_option linter.unusedSimpArgs false

set_option maxRecDepth 100000 in
set_option maxHeartbeats 8000000 in
theorem compareExamples_walk (w : World) :
    Calls Try.prog 3 #[] w fun e w' => e = .returned (.bool true) ∧ Below w.heap.size w w' := by
  exact (examples_any w).mono fun e w' h => h

end Go.Proofs.Ytmkcdlhhbnakiaa
