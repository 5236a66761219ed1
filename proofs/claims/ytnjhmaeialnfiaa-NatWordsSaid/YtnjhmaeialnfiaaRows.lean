/-
  No cell of these rows narrows 'for every input' (looked for: loops, veiled, ifaces, maps, wideKeys, modest, calm, conditions, laid).
  DERIVED. THE GIVEN ROWS OF THIS SEAT. 8 by the template 'for every input the law returns true; each argument reads behind the call as it read before'; 0 by the template 'total and deterministic' (their statements: YtnjhmaeialnfiaaTotals.lean).
  GIVEN WITH THE SEED: the statements are not yours to turn. If you find one false, say at which input.
  Laid BY PROGRAM, IN A SANDBOX (cutbox-rows.mjs): the forced cells as the released guide's own fill.sh prints them over the translation 9bb8d988b476a8ac… (all of the seat's roots in one cut). By AI agents, Wed Nov 11 2026. No macro, syntax, notation, axiom, sorry.
-/
import Derived.Test.YtnjhmaeialnfiaaChecked
import GoSem.Claim
import GoSem.ClaimJoined
import GoSem.ClaimMapViews
import Derived.JoinedTies
import Derived.KernelRfl
namespace Go.Proofs.Ytnjhmaeialnfiaa
/- THE CELL 'sum', in the pinned program and in every row, IS THE sha256 OF THE DUMP (.gsa) THAT YtnjhmaeialnfiaaProg.lean LOADS. Nothing in Lean hashes anything: it is a label: what it is worth is what the hold of that sum in a sandbox is worth. -/
noncomputable def Try.pinned : Pinned := { name := "ytnjhmaeialnfiaa", sum := "9bb8d988b476a8ac0f7cfcf5cf9e8f065540469ec9433ec5e02ed42c1405ed9d", checked := Try.checked }
namespace Rows
def none {H : Type} : Left H := { results := [], args := [] }

/-- 'suffragelaw03.NatDivides': WHATEVER THE INPUT: true; the input reads as it did. -/
def natDividesSpec : ChangeSpec := { name := "natDivides", fn := fun _ => fun
  | [d1, d2, d3] => { results := [.lit (.bool true)], args := [d1, d2, d3] }
  | _ => none }
def natDividesRow : OpenClaim := { program := "ytnjhmaeialnfiaa", sum := "9bb8d988b476a8ac0f7cfcf5cf9e8f065540469ec9433ec5e02ed42c1405ed9d", func := "suffrage/suffragelaw03.NatDivides", spec := "natDivides", named := ["math/bits.overflowError"], apart := false }
def NatDividesSaid : Prop := natDividesRow.holds Try.pinned (OpenSpec.ofChange natDividesSpec)

/-- ITS FALSE NEIGHBOUR: 'it returns false'. Refute it at one input. -/
def natDividesWrong : ChangeSpec := { name := "natDivides", fn := fun _ => fun
  | [d1, d2, d3] => { results := [.lit (.bool false)], args := [d1, d2, d3] }
  | _ => none }
def NatDividesWrongFalsely : Prop := natDividesRow.holds Try.pinned (OpenSpec.ofChange natDividesWrong)

/-- 'suffragelaw03.NatCommon': WHATEVER THE INPUT: true; the input reads as it did. -/
def natCommonSpec : ChangeSpec := { name := "natCommon", fn := fun _ => fun
  | [d1, d2, d3] => { results := [.lit (.bool true)], args := [d1, d2, d3] }
  | _ => none }
def natCommonRow : OpenClaim := { program := "ytnjhmaeialnfiaa", sum := "9bb8d988b476a8ac0f7cfcf5cf9e8f065540469ec9433ec5e02ed42c1405ed9d", func := "suffrage/suffragelaw03.NatCommon", spec := "natCommon", named := ["math/bits.overflowError"], apart := false }
def NatCommonSaid : Prop := natCommonRow.holds Try.pinned (OpenSpec.ofChange natCommonSpec)

/-- ITS FALSE NEIGHBOUR: 'it returns false'. Refute it at one input. -/
def natCommonWrong : ChangeSpec := { name := "natCommon", fn := fun _ => fun
  | [d1, d2, d3] => { results := [.lit (.bool false)], args := [d1, d2, d3] }
  | _ => none }
def NatCommonWrongFalsely : Prop := natCommonRow.holds Try.pinned (OpenSpec.ofChange natCommonWrong)

/-- 'suffragelaw03.NatText': WHATEVER THE INPUT: true; the input reads as it did. -/
def natTextSpec : ChangeSpec := { name := "natText", fn := fun _ => fun
  | [d1, d2] => { results := [.lit (.bool true)], args := [d1, d2] }
  | _ => none }
def natTextRow : OpenClaim := { program := "ytnjhmaeialnfiaa", sum := "9bb8d988b476a8ac0f7cfcf5cf9e8f065540469ec9433ec5e02ed42c1405ed9d", func := "suffrage/suffragelaw03.NatText", spec := "natText", named := ["math/bits.overflowError"], apart := false }
def NatTextSaid : Prop := natTextRow.holds Try.pinned (OpenSpec.ofChange natTextSpec)

/-- ITS FALSE NEIGHBOUR: 'it returns false'. Refute it at one input. -/
def natTextWrong : ChangeSpec := { name := "natText", fn := fun _ => fun
  | [d1, d2] => { results := [.lit (.bool false)], args := [d1, d2] }
  | _ => none }
def NatTextWrongFalsely : Prop := natTextRow.holds Try.pinned (OpenSpec.ofChange natTextWrong)

/-- 'suffragelaw03.NatRing': WHATEVER THE INPUT: true; the input reads as it did. -/
def natRingSpec : ChangeSpec := { name := "natRing", fn := fun _ => fun
  | [d1, d2, d3] => { results := [.lit (.bool true)], args := [d1, d2, d3] }
  | _ => none }
def natRingRow : OpenClaim := { program := "ytnjhmaeialnfiaa", sum := "9bb8d988b476a8ac0f7cfcf5cf9e8f065540469ec9433ec5e02ed42c1405ed9d", func := "suffrage/suffragelaw03.NatRing", spec := "natRing", named := ["math/bits.overflowError"], apart := false }
def NatRingSaid : Prop := natRingRow.holds Try.pinned (OpenSpec.ofChange natRingSpec)

/-- ITS FALSE NEIGHBOUR: 'it returns false'. Refute it at one input. -/
def natRingWrong : ChangeSpec := { name := "natRing", fn := fun _ => fun
  | [d1, d2, d3] => { results := [.lit (.bool false)], args := [d1, d2, d3] }
  | _ => none }
def NatRingWrongFalsely : Prop := natRingRow.holds Try.pinned (OpenSpec.ofChange natRingWrong)

/-- 'suffragelaw03.NatLess': WHATEVER THE INPUT: true; the input reads as it did. -/
def natLessSpec : ChangeSpec := { name := "natLess", fn := fun _ => fun
  | [d1, d2, d3] => { results := [.lit (.bool true)], args := [d1, d2, d3] }
  | _ => none }
def natLessRow : OpenClaim := { program := "ytnjhmaeialnfiaa", sum := "9bb8d988b476a8ac0f7cfcf5cf9e8f065540469ec9433ec5e02ed42c1405ed9d", func := "suffrage/suffragelaw03.NatLess", spec := "natLess", named := ["math/bits.overflowError"], apart := false }
def NatLessSaid : Prop := natLessRow.holds Try.pinned (OpenSpec.ofChange natLessSpec)

/-- ITS FALSE NEIGHBOUR: 'it returns false'. Refute it at one input. -/
def natLessWrong : ChangeSpec := { name := "natLess", fn := fun _ => fun
  | [d1, d2, d3] => { results := [.lit (.bool false)], args := [d1, d2, d3] }
  | _ => none }
def NatLessWrongFalsely : Prop := natLessRow.holds Try.pinned (OpenSpec.ofChange natLessWrong)

/-- 'suffragelaw03.NatRest': WHATEVER THE INPUT: true; the input reads as it did. -/
def natRestSpec : ChangeSpec := { name := "natRest", fn := fun _ => fun
  | [d1, d2] => { results := [.lit (.bool true)], args := [d1, d2] }
  | _ => none }
def natRestRow : OpenClaim := { program := "ytnjhmaeialnfiaa", sum := "9bb8d988b476a8ac0f7cfcf5cf9e8f065540469ec9433ec5e02ed42c1405ed9d", func := "suffrage/suffragelaw03.NatRest", spec := "natRest", named := ["math/bits.overflowError"], apart := false }
def NatRestSaid : Prop := natRestRow.holds Try.pinned (OpenSpec.ofChange natRestSpec)

/-- ITS FALSE NEIGHBOUR: 'it returns false'. Refute it at one input. -/
def natRestWrong : ChangeSpec := { name := "natRest", fn := fun _ => fun
  | [d1, d2] => { results := [.lit (.bool false)], args := [d1, d2] }
  | _ => none }
def NatRestWrongFalsely : Prop := natRestRow.holds Try.pinned (OpenSpec.ofChange natRestWrong)

/-- 'suffragelaw03.NatTells': WHATEVER THE INPUT: true; the input reads as it did. -/
def natTellsSpec : ChangeSpec := { name := "natTells", fn := fun _ => fun
  | [d1, d2, d3] => { results := [.lit (.bool true)], args := [d1, d2, d3] }
  | _ => none }
def natTellsRow : OpenClaim := { program := "ytnjhmaeialnfiaa", sum := "9bb8d988b476a8ac0f7cfcf5cf9e8f065540469ec9433ec5e02ed42c1405ed9d", func := "suffrage/suffragelaw03.NatTells", spec := "natTells", named := ["math/bits.overflowError"], apart := false }
def NatTellsSaid : Prop := natTellsRow.holds Try.pinned (OpenSpec.ofChange natTellsSpec)

/-- ITS FALSE NEIGHBOUR: 'it returns false'. Refute it at one input. -/
def natTellsWrong : ChangeSpec := { name := "natTells", fn := fun _ => fun
  | [d1, d2, d3] => { results := [.lit (.bool false)], args := [d1, d2, d3] }
  | _ => none }
def NatTellsWrongFalsely : Prop := natTellsRow.holds Try.pinned (OpenSpec.ofChange natTellsWrong)

/-- 'suffragelaw03.NatWords': WHATEVER THE INPUT: true; the input reads as it did. -/
def natWordsSpec : ChangeSpec := { name := "natWords", fn := fun _ => fun
  | [d1, d2] => { results := [.lit (.bool true)], args := [d1, d2] }
  | _ => none }
def natWordsRow : OpenClaim := { program := "ytnjhmaeialnfiaa", sum := "9bb8d988b476a8ac0f7cfcf5cf9e8f065540469ec9433ec5e02ed42c1405ed9d", func := "suffrage/suffragelaw03.NatWords", spec := "natWords", named := ["math/bits.overflowError"], apart := false }
def NatWordsSaid : Prop := natWordsRow.holds Try.pinned (OpenSpec.ofChange natWordsSpec)

/-- ITS FALSE NEIGHBOUR: 'it returns false'. Refute it at one input. -/
def natWordsWrong : ChangeSpec := { name := "natWords", fn := fun _ => fun
  | [d1, d2] => { results := [.lit (.bool false)], args := [d1, d2] }
  | _ => none }
def NatWordsWrongFalsely : Prop := natWordsRow.holds Try.pinned (OpenSpec.ofChange natWordsWrong)

/- THE SECOND FORM. 'bulk': how many values and letters a reading holds, each counted each time it is reached (what is shared counts as often as it is met; a slice's spare places count too). A statement '..UptoSaid' is the law's where the arguments, and the package variables that the reading takes, are together of bulk at most 1048576: NARROWER than '..Said'. Prove '..Said' where nothing that the law and all that it calls make is longer than what came in: it says more and counts as full. Else prove '..UptoSaid'. A law counts once. -/
mutual
def uptoBulk {H : Type} : DataW H → Nat
  | .lit (.string bytes) => bytes.length + 1
  | .lit _ => 1
  | .nil => 1
  | .ptr d => uptoBulk d + 1
  | .slice elems spare => uptoBulkAll elems + uptoBulkAll spare + 1
  | .agg parts => uptoBulkAll parts + 1
  | .iface _ d => uptoBulk d + 1
  | .map entries => uptoBulkEntries entries + 1
  | .held _ => 1
def uptoBulkAll {H : Type} : List (DataW H) → Nat
  | [] => 0
  | d :: r => uptoBulk d + uptoBulkAll r
def uptoBulkEntries {H : Type} : List (Lit × DataW H) → Nat
  | [] => 0
  | x :: r => uptoBulkEntry x + uptoBulkEntries r
def uptoBulkEntry {H : Type} : Lit × DataW H → Nat
  | (.string bytes, d) => bytes.length + uptoBulk d + 1
  | (_, d) => uptoBulk d + 1
 end
def uptoSmall : (H : Type) → List (DataW H) → Bool := fun _ ds => decide (uptoBulkAll ds ≤ 1048576)
def OpenSpec.upto (s : _root_.Go.ChangeSpec) : _root_.Go.OpenSpec := { _root_.Go.OpenSpec.ofChange s with cond := some uptoSmall }

/-- 'suffragelaw03.NatDivides', WHERE WHAT IT READS IS OF BULK AT MOST 1048576: true; the input reads as it did. -/
def natDividesUptoRow : OpenClaim := { program := "ytnjhmaeialnfiaa", sum := "9bb8d988b476a8ac0f7cfcf5cf9e8f065540469ec9433ec5e02ed42c1405ed9d", func := "suffrage/suffragelaw03.NatDivides", spec := "natDivides", named := ["math/bits.overflowError"], apart := false, narrowed := true }
def NatDividesUptoSaid : Prop := natDividesUptoRow.holds Try.pinned (OpenSpec.upto natDividesSpec)

/-- 'suffragelaw03.NatCommon', WHERE WHAT IT READS IS OF BULK AT MOST 1048576: true; the input reads as it did. -/
def natCommonUptoRow : OpenClaim := { program := "ytnjhmaeialnfiaa", sum := "9bb8d988b476a8ac0f7cfcf5cf9e8f065540469ec9433ec5e02ed42c1405ed9d", func := "suffrage/suffragelaw03.NatCommon", spec := "natCommon", named := ["math/bits.overflowError"], apart := false, narrowed := true }
def NatCommonUptoSaid : Prop := natCommonUptoRow.holds Try.pinned (OpenSpec.upto natCommonSpec)

/-- 'suffragelaw03.NatText', WHERE WHAT IT READS IS OF BULK AT MOST 1048576: true; the input reads as it did. -/
def natTextUptoRow : OpenClaim := { program := "ytnjhmaeialnfiaa", sum := "9bb8d988b476a8ac0f7cfcf5cf9e8f065540469ec9433ec5e02ed42c1405ed9d", func := "suffrage/suffragelaw03.NatText", spec := "natText", named := ["math/bits.overflowError"], apart := false, narrowed := true }
def NatTextUptoSaid : Prop := natTextUptoRow.holds Try.pinned (OpenSpec.upto natTextSpec)

/-- 'suffragelaw03.NatRing', WHERE WHAT IT READS IS OF BULK AT MOST 1048576: true; the input reads as it did. -/
def natRingUptoRow : OpenClaim := { program := "ytnjhmaeialnfiaa", sum := "9bb8d988b476a8ac0f7cfcf5cf9e8f065540469ec9433ec5e02ed42c1405ed9d", func := "suffrage/suffragelaw03.NatRing", spec := "natRing", named := ["math/bits.overflowError"], apart := false, narrowed := true }
def NatRingUptoSaid : Prop := natRingUptoRow.holds Try.pinned (OpenSpec.upto natRingSpec)

/-- 'suffragelaw03.NatLess', WHERE WHAT IT READS IS OF BULK AT MOST 1048576: true; the input reads as it did. -/
def natLessUptoRow : OpenClaim := { program := "ytnjhmaeialnfiaa", sum := "9bb8d988b476a8ac0f7cfcf5cf9e8f065540469ec9433ec5e02ed42c1405ed9d", func := "suffrage/suffragelaw03.NatLess", spec := "natLess", named := ["math/bits.overflowError"], apart := false, narrowed := true }
def NatLessUptoSaid : Prop := natLessUptoRow.holds Try.pinned (OpenSpec.upto natLessSpec)

/-- 'suffragelaw03.NatRest', WHERE WHAT IT READS IS OF BULK AT MOST 1048576: true; the input reads as it did. -/
def natRestUptoRow : OpenClaim := { program := "ytnjhmaeialnfiaa", sum := "9bb8d988b476a8ac0f7cfcf5cf9e8f065540469ec9433ec5e02ed42c1405ed9d", func := "suffrage/suffragelaw03.NatRest", spec := "natRest", named := ["math/bits.overflowError"], apart := false, narrowed := true }
def NatRestUptoSaid : Prop := natRestUptoRow.holds Try.pinned (OpenSpec.upto natRestSpec)

/-- 'suffragelaw03.NatTells', WHERE WHAT IT READS IS OF BULK AT MOST 1048576: true; the input reads as it did. -/
def natTellsUptoRow : OpenClaim := { program := "ytnjhmaeialnfiaa", sum := "9bb8d988b476a8ac0f7cfcf5cf9e8f065540469ec9433ec5e02ed42c1405ed9d", func := "suffrage/suffragelaw03.NatTells", spec := "natTells", named := ["math/bits.overflowError"], apart := false, narrowed := true }
def NatTellsUptoSaid : Prop := natTellsUptoRow.holds Try.pinned (OpenSpec.upto natTellsSpec)

/-- 'suffragelaw03.NatWords', WHERE WHAT IT READS IS OF BULK AT MOST 1048576: true; the input reads as it did. -/
def natWordsUptoRow : OpenClaim := { program := "ytnjhmaeialnfiaa", sum := "9bb8d988b476a8ac0f7cfcf5cf9e8f065540469ec9433ec5e02ed42c1405ed9d", func := "suffrage/suffragelaw03.NatWords", spec := "natWords", named := ["math/bits.overflowError"], apart := false, narrowed := true }
def NatWordsUptoSaid : Prop := natWordsUptoRow.holds Try.pinned (OpenSpec.upto natWordsSpec)

end Rows
end Go.Proofs.Ytnjhmaeialnfiaa
