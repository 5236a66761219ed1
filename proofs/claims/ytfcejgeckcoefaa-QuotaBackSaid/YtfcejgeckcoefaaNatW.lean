/- The document's answer: Text. No condition. -/
import Derived.Test.YtfcejgeckcoefaaNatV
namespace Go.Proofs.Ytfcejgeckcoefaa
open Go.RowKit Go.Suf
set_option linter.unusedVariables false
set_option linter.unusedSimpArgs false

theorem strB_append (xs ys : List Nat) : strB xs ++ strB ys = strB (xs ++ ys) := by
  apply ByteArray.ext
  simp [strB]

theorem digit_at {d : Nat} (hd : d < 10) : (⟨#[48, 49, 50, 51, 52, 53, 54, 55, 56, 57]⟩ : ByteArray).extract d (d + 1) = strB [d + 48] := by
  rcases (show d = 0 ∨ d = 1 ∨ d = 2 ∨ d = 3 ∨ d = 4 ∨ d = 5 ∨ d = 6 ∨ d = 7 ∨ d = 8 ∨ d = 9 by omega) with h | h | h | h | h | h | h | h | h | h <;> subst h <;> rfl

theorem chars_more (ds : List Nat) (d : Nat) : strB [d + 48] ++ strB (chars ds).reverse = strB (chars (ds ++ [d])).reverse := by
  rw [strB_append]
  simp [chars]

end Go.Proofs.Ytfcejgeckcoefaa
