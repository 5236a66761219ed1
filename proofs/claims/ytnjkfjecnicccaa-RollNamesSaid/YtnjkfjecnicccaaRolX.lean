/- The examples of the chapter: the numbers. No condition. -/
import Derived.Test.YtnjkfjecnicccaaRolW
import Derived.Test.YtnjkfjecnicccaaRolL
import Derived.KernelRfl
namespace Go.Proofs.Ytnjkfjecnicccaa
open Go.RowKit Go.Suf
set_option linter.unusedVariables false
set_option linter.unusedSimpArgs false

def bobS : ByteArray := ⟨#[98, 111, 98]⟩
def annS : ByteArray := ⟨#[97, 110, 110]⟩
theorem ex_bob : addV [] bobS 1 = ([⟨bobS, 1, 1⟩], 0) := by decide +kernel
theorem ex_ann : addV [⟨bobS, 1, 1⟩] annS 1 = ([⟨annS, 1, 1⟩, ⟨bobS, 1, 1⟩], 0) := by decide +kernel
theorem ex_issue : opV [⟨annS, 1, 1⟩, ⟨bobS, 1, 1⟩] bobS 1 2 = ([⟨annS, 1, 1⟩, ⟨bobS, 1, 2⟩], 0) := by decide +kernel
theorem ex_vote : opV [⟨annS, 1, 1⟩, ⟨bobS, 1, 2⟩] bobS 2 3 = ([⟨annS, 1, 1⟩, ⟨bobS, 1, 3⟩], 0) := by decide +kernel
def twoV : List VQ := [⟨annS, 1, 1⟩, ⟨bobS, 1, 3⟩]
theorem ex_again : opV twoV bobS 1 2 = ([], 241) := by decide +kernel
theorem ex_count : cntV twoV (-1) = ((1, 0, 1, 0), 0) := by decide +kernel

end Go.Proofs.Ytnjkfjecnicccaa
