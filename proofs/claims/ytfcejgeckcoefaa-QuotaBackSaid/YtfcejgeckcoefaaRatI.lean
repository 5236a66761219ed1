/- Rational numbers in the document's answer: both, Long, Cmp. -/
import Derived.Test.YtfcejgeckcoefaaRatH
namespace Go.Proofs.Ytfcejgeckcoefaa
open Go.RowKit Go.Suf
set_option linter.unusedVariables false
set_option linter.unusedSimpArgs false

def bothOk (x y : QV) : Bool := decide (chkV x = 0 ∧ chkV y = 0)

/-- Whether a number is too long for the answer. -/
def longV (x : QV) : Bool := longB x.num || longB x.den || decide (200 < x.num.length) || decide (200 < x.den.length)

end Go.Proofs.Ytfcejgeckcoefaa
