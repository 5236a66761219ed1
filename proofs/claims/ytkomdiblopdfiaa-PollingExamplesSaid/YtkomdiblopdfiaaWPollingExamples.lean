/- The walk of the law PollingExamples: it returns true and turns nothing that was there. No condition. -/
import Derived.Test.YtkomdiblopdfiaaPolT
namespace Go.Proofs.Ytkomdiblopdfiaa
open Go.RowKit Go.Suf

theorem pollingExamples_walk (w : World) : Calls Try.prog 3 #[] w fun e w' => e = .returned (.bool true) ∧ Below w.heap.size w w' := examples_any w

end Go.Proofs.Ytkomdiblopdfiaa
