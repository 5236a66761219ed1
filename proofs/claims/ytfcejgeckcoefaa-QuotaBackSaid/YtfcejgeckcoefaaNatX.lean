/- The document's answer: Read. No condition. -/
import Derived.Test.YtfcejgeckcoefaaNatW
namespace Go.Proofs.Ytfcejgeckcoefaa
open Go.RowKit Go.Suf
set_option linter.unusedVariables false
set_option linter.unusedSimpArgs false

theorem formB_nil : formB [] = false := rfl

theorem formB_zero {xs : List Nat} (h1 : nth xs 0 = 48) (h2 : 1 < xs.length) : formB xs = false := by
  unfold formB
  rw [decide_eq_false_iff_not]
  rintro ⟨_, h, _⟩
  have := h h1
  omega

end Go.Proofs.Ytfcejgeckcoefaa
