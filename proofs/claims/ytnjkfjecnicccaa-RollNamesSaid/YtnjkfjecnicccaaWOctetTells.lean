/- The walk of the law OctetTells: it returns true and turns nothing that was there. No condition. -/
import Derived.Test.YtnjkfjecnicccaaOctetC
namespace Go.Proofs.Ytnjkfjecnicccaa
open Go.RowKit Go.Suf

theorem convB {w : World} {a : Option Addr} {n cap : Nat} {xs : List Nat} (h : Rd .u8 w a n cap xs) :
    Sem.run Try.prog (convert 34 9 (.slice a n cap)) w = .ok (.string (strB xs)) w :=
  conv_str h Try.underlying34 Try.underlying5 Try.underlying9

end Go.Proofs.Ytnjkfjecnicccaa
