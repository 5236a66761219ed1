/-
  No cell of these rows narrows 'for every input' (looked for: loops, veiled, ifaces, maps, wideKeys, modest, calm, conditions, laid).
  DERIVED. THE GIVEN ROWS OF THIS SEAT. 8 by the template 'for every input the law returns true; each argument reads behind the call as it read before'; 0 by the template 'total and deterministic' (their statements: YtlfempfhohejiaaTotals.lean).
  GIVEN WITH THE SEED: the statements are not yours to turn. If you find one false, say at which input.
  Laid BY PROGRAM, IN A SANDBOX (cutbox-rows.mjs): the forced cells as the released guide's own fill.sh prints them over the translation 0e9c6763980e2065… (all of the seat's roots in one cut). By AI agents, Wed Nov 11 2026. No macro, syntax, notation, axiom, sorry.
-/
import Derived.Test.YtlfempfhohejiaaChecked
import GoSem.Claim
import GoSem.ClaimJoined
import GoSem.ClaimMapViews
import Derived.JoinedTies
import Derived.KernelRfl
namespace Go.Proofs.Ytlfempfhohejiaa
/- THE CELL 'sum', in the pinned program and in every row, IS THE sha256 OF THE DUMP (.gsa) THAT YtlfempfhohejiaaProg.lean LOADS. Nothing in Lean hashes anything: it is a label: what it is worth is what the hold of that sum in a sandbox is worth. -/
noncomputable def Try.pinned : Pinned := { name := "ytlfempfhohejiaa", sum := "0e9c6763980e2065c78d76e4e9c9b70e614888830cc41be926e7313d8ed4a655", checked := Try.checked }
namespace Rows
def none {H : Type} : Left H := { results := [], args := [] }

/-- 'suffragelaw25.SheetTells': WHATEVER THE INPUT: true; the input reads as it did. -/
def sheetTellsSpec : ChangeSpec := { name := "sheetTells", fn := fun _ => fun
  | [d1, d2] => { results := [.lit (.bool true)], args := [d1, d2] }
  | _ => none }
def sheetTellsRow : OpenClaim := { program := "ytlfempfhohejiaa", sum := "0e9c6763980e2065c78d76e4e9c9b70e614888830cc41be926e7313d8ed4a655", func := "suffrage/suffragelaw25.SheetTells", spec := "sheetTells", unfollowed := true, recurses := true, apart := false }
def SheetTellsSaid : Prop := sheetTellsRow.holds Try.pinned (OpenSpec.ofChange sheetTellsSpec)

/-- ITS FALSE NEIGHBOUR: 'it returns false'. Refute it at one input. -/
def sheetTellsWrong : ChangeSpec := { name := "sheetTells", fn := fun _ => fun
  | [d1, d2] => { results := [.lit (.bool false)], args := [d1, d2] }
  | _ => none }
def SheetTellsWrongFalsely : Prop := sheetTellsRow.holds Try.pinned (OpenSpec.ofChange sheetTellsWrong)

/-- 'suffragelaw25.SheetFills': WHATEVER THE INPUT: true; the input reads as it did. -/
def sheetFillsSpec : ChangeSpec := { name := "sheetFills", fn := fun _ => fun
  | [d1, d2] => { results := [.lit (.bool true)], args := [d1, d2] }
  | _ => none }
def sheetFillsRow : OpenClaim := { program := "ytlfempfhohejiaa", sum := "0e9c6763980e2065c78d76e4e9c9b70e614888830cc41be926e7313d8ed4a655", func := "suffrage/suffragelaw25.SheetFills", spec := "sheetFills", unfollowed := true, recurses := true, apart := false }
def SheetFillsSaid : Prop := sheetFillsRow.holds Try.pinned (OpenSpec.ofChange sheetFillsSpec)

/-- ITS FALSE NEIGHBOUR: 'it returns false'. Refute it at one input. -/
def sheetFillsWrong : ChangeSpec := { name := "sheetFills", fn := fun _ => fun
  | [d1, d2] => { results := [.lit (.bool false)], args := [d1, d2] }
  | _ => none }
def SheetFillsWrongFalsely : Prop := sheetFillsRow.holds Try.pinned (OpenSpec.ofChange sheetFillsWrong)

/-- 'suffragelaw25.SheetReads': WHATEVER THE INPUT: true; the input reads as it did. -/
def sheetReadsSpec : ChangeSpec := { name := "sheetReads", fn := fun _ => fun
  | [d1, d2, d3, d4] => { results := [.lit (.bool true)], args := [d1, d2, d3, d4] }
  | _ => none }
def sheetReadsRow : OpenClaim := { program := "ytlfempfhohejiaa", sum := "0e9c6763980e2065c78d76e4e9c9b70e614888830cc41be926e7313d8ed4a655", func := "suffrage/suffragelaw25.SheetReads", spec := "sheetReads", unfollowed := true, recurses := true, apart := false }
def SheetReadsSaid : Prop := sheetReadsRow.holds Try.pinned (OpenSpec.ofChange sheetReadsSpec)

/-- ITS FALSE NEIGHBOUR: 'it returns false'. Refute it at one input. -/
def sheetReadsWrong : ChangeSpec := { name := "sheetReads", fn := fun _ => fun
  | [d1, d2, d3, d4] => { results := [.lit (.bool false)], args := [d1, d2, d3, d4] }
  | _ => none }
def SheetReadsWrongFalsely : Prop := sheetReadsRow.holds Try.pinned (OpenSpec.ofChange sheetReadsWrong)

/-- 'suffragelaw25.SheetSteady': WHATEVER THE INPUT: true; the input reads as it did. -/
def sheetSteadySpec : ChangeSpec := { name := "sheetSteady", fn := fun _ => fun
  | [d1, d2, d3, d4, d5] => { results := [.lit (.bool true)], args := [d1, d2, d3, d4, d5] }
  | _ => none }
def sheetSteadyRow : OpenClaim := { program := "ytlfempfhohejiaa", sum := "0e9c6763980e2065c78d76e4e9c9b70e614888830cc41be926e7313d8ed4a655", func := "suffrage/suffragelaw25.SheetSteady", spec := "sheetSteady", unfollowed := true, recurses := true, apart := false }
def SheetSteadySaid : Prop := sheetSteadyRow.holds Try.pinned (OpenSpec.ofChange sheetSteadySpec)

/-- ITS FALSE NEIGHBOUR: 'it returns false'. Refute it at one input. -/
def sheetSteadyWrong : ChangeSpec := { name := "sheetSteady", fn := fun _ => fun
  | [d1, d2, d3, d4, d5] => { results := [.lit (.bool false)], args := [d1, d2, d3, d4, d5] }
  | _ => none }
def SheetSteadyWrongFalsely : Prop := sheetSteadyRow.holds Try.pinned (OpenSpec.ofChange sheetSteadyWrong)

/-- 'suffragelaw25.SheetOrder': WHATEVER THE INPUT: true; the input reads as it did. -/
def sheetOrderSpec : ChangeSpec := { name := "sheetOrder", fn := fun _ => fun
  | [d1, d2, d3, d4] => { results := [.lit (.bool true)], args := [d1, d2, d3, d4] }
  | _ => none }
def sheetOrderRow : OpenClaim := { program := "ytlfempfhohejiaa", sum := "0e9c6763980e2065c78d76e4e9c9b70e614888830cc41be926e7313d8ed4a655", func := "suffrage/suffragelaw25.SheetOrder", spec := "sheetOrder", unfollowed := true, recurses := true, apart := false }
def SheetOrderSaid : Prop := sheetOrderRow.holds Try.pinned (OpenSpec.ofChange sheetOrderSpec)

/-- ITS FALSE NEIGHBOUR: 'it returns false'. Refute it at one input. -/
def sheetOrderWrong : ChangeSpec := { name := "sheetOrder", fn := fun _ => fun
  | [d1, d2, d3, d4] => { results := [.lit (.bool false)], args := [d1, d2, d3, d4] }
  | _ => none }
def SheetOrderWrongFalsely : Prop := sheetOrderRow.holds Try.pinned (OpenSpec.ofChange sheetOrderWrong)

/-- 'suffragelaw25.SheetMay': WHATEVER THE INPUT: true; the input reads as it did. -/
def sheetMaySpec : ChangeSpec := { name := "sheetMay", fn := fun _ => fun
  | [d1, d2, d3, d4] => { results := [.lit (.bool true)], args := [d1, d2, d3, d4] }
  | _ => none }
def sheetMayRow : OpenClaim := { program := "ytlfempfhohejiaa", sum := "0e9c6763980e2065c78d76e4e9c9b70e614888830cc41be926e7313d8ed4a655", func := "suffrage/suffragelaw25.SheetMay", spec := "sheetMay", unfollowed := true, recurses := true, apart := false }
def SheetMaySaid : Prop := sheetMayRow.holds Try.pinned (OpenSpec.ofChange sheetMaySpec)

/-- ITS FALSE NEIGHBOUR: 'it returns false'. Refute it at one input. -/
def sheetMayWrong : ChangeSpec := { name := "sheetMay", fn := fun _ => fun
  | [d1, d2, d3, d4] => { results := [.lit (.bool false)], args := [d1, d2, d3, d4] }
  | _ => none }
def SheetMayWrongFalsely : Prop := sheetMayRow.holds Try.pinned (OpenSpec.ofChange sheetMayWrong)

/-- 'suffragelaw25.SheetNames': WHATEVER THE INPUT: true; the input reads as it did. -/
def sheetNamesSpec : ChangeSpec := { name := "sheetNames", fn := fun _ => fun
  | [] => { results := [.lit (.bool true)], args := [] }
  | _ => none }
def sheetNamesRow : OpenClaim := { program := "ytlfempfhohejiaa", sum := "0e9c6763980e2065c78d76e4e9c9b70e614888830cc41be926e7313d8ed4a655", func := "suffrage/suffragelaw25.SheetNames", spec := "sheetNames", unfollowed := true, recurses := true, apart := false }
def SheetNamesSaid : Prop := sheetNamesRow.holds Try.pinned (OpenSpec.ofChange sheetNamesSpec)

/-- ITS FALSE NEIGHBOUR: 'it returns false'. Refute it at one input. -/
def sheetNamesWrong : ChangeSpec := { name := "sheetNames", fn := fun _ => fun
  | [] => { results := [.lit (.bool false)], args := [] }
  | _ => none }
def SheetNamesWrongFalsely : Prop := sheetNamesRow.holds Try.pinned (OpenSpec.ofChange sheetNamesWrong)

/-- 'suffragelaw25.SheetBack': WHATEVER THE INPUT: true; the input reads as it did. -/
def sheetBackSpec : ChangeSpec := { name := "sheetBack", fn := fun _ => fun
  | [d1, d2, d3] => { results := [.lit (.bool true)], args := [d1, d2, d3] }
  | _ => none }
def sheetBackRow : OpenClaim := { program := "ytlfempfhohejiaa", sum := "0e9c6763980e2065c78d76e4e9c9b70e614888830cc41be926e7313d8ed4a655", func := "suffrage/suffragelaw25.SheetBack", spec := "sheetBack", unfollowed := true, recurses := true, apart := false }
def SheetBackSaid : Prop := sheetBackRow.holds Try.pinned (OpenSpec.ofChange sheetBackSpec)

/-- ITS FALSE NEIGHBOUR: 'it returns false'. Refute it at one input. -/
def sheetBackWrong : ChangeSpec := { name := "sheetBack", fn := fun _ => fun
  | [d1, d2, d3] => { results := [.lit (.bool false)], args := [d1, d2, d3] }
  | _ => none }
def SheetBackWrongFalsely : Prop := sheetBackRow.holds Try.pinned (OpenSpec.ofChange sheetBackWrong)

/- THE SECOND FORM. 'bulk': how many values and letters a reading holds, each counted each time it is reached (what is shared counts as often as it is met; a slice's spare places count too). A statement '..UptoSaid' is the law's where the arguments, and the package variables that the reading takes, are together of bulk at most 1048576: NARROWER than '..Said'. Prove '..Said' where nothing that the law and all that it calls make is longer than what came in: it says more and counts as full. Else prove '..UptoSaid'. A law counts once. -/
mutual
def uptoBulk {H : Type} : DataW H → Nat
  | .lit (.string bytes) => bytes.length + 1
  | .lit _ => 1
  | .nil => 1
  | .ptr d => uptoBulk d + 1
  | .slice elems spare => uptoBulkAll elems + uptoBulkAll spare + 1
  | .agg parts => uptoBulkAll parts + 1
  | .iface _ d => uptoBulk d + 1
  | .map entries => uptoBulkEntries entries + 1
  | .held _ => 1
def uptoBulkAll {H : Type} : List (DataW H) → Nat
  | [] => 0
  | d :: r => uptoBulk d + uptoBulkAll r
def uptoBulkEntries {H : Type} : List (Lit × DataW H) → Nat
  | [] => 0
  | x :: r => uptoBulkEntry x + uptoBulkEntries r
def uptoBulkEntry {H : Type} : Lit × DataW H → Nat
  | (.string bytes, d) => bytes.length + uptoBulk d + 1
  | (_, d) => uptoBulk d + 1
 end
def uptoSmall : (H : Type) → List (DataW H) → Bool := fun _ ds => decide (uptoBulkAll ds ≤ 1048576)
def OpenSpec.upto (s : _root_.Go.ChangeSpec) : _root_.Go.OpenSpec := { _root_.Go.OpenSpec.ofChange s with cond := some uptoSmall }

/-- 'suffragelaw25.SheetTells', WHERE WHAT IT READS IS OF BULK AT MOST 1048576: true; the input reads as it did. -/
def sheetTellsUptoRow : OpenClaim := { program := "ytlfempfhohejiaa", sum := "0e9c6763980e2065c78d76e4e9c9b70e614888830cc41be926e7313d8ed4a655", func := "suffrage/suffragelaw25.SheetTells", spec := "sheetTells", unfollowed := true, recurses := true, apart := false, narrowed := true }
def SheetTellsUptoSaid : Prop := sheetTellsUptoRow.holds Try.pinned (OpenSpec.upto sheetTellsSpec)

/-- 'suffragelaw25.SheetFills', WHERE WHAT IT READS IS OF BULK AT MOST 1048576: true; the input reads as it did. -/
def sheetFillsUptoRow : OpenClaim := { program := "ytlfempfhohejiaa", sum := "0e9c6763980e2065c78d76e4e9c9b70e614888830cc41be926e7313d8ed4a655", func := "suffrage/suffragelaw25.SheetFills", spec := "sheetFills", unfollowed := true, recurses := true, apart := false, narrowed := true }
def SheetFillsUptoSaid : Prop := sheetFillsUptoRow.holds Try.pinned (OpenSpec.upto sheetFillsSpec)

/-- 'suffragelaw25.SheetReads', WHERE WHAT IT READS IS OF BULK AT MOST 1048576: true; the input reads as it did. -/
def sheetReadsUptoRow : OpenClaim := { program := "ytlfempfhohejiaa", sum := "0e9c6763980e2065c78d76e4e9c9b70e614888830cc41be926e7313d8ed4a655", func := "suffrage/suffragelaw25.SheetReads", spec := "sheetReads", unfollowed := true, recurses := true, apart := false, narrowed := true }
def SheetReadsUptoSaid : Prop := sheetReadsUptoRow.holds Try.pinned (OpenSpec.upto sheetReadsSpec)

/-- 'suffragelaw25.SheetSteady', WHERE WHAT IT READS IS OF BULK AT MOST 1048576: true; the input reads as it did. -/
def sheetSteadyUptoRow : OpenClaim := { program := "ytlfempfhohejiaa", sum := "0e9c6763980e2065c78d76e4e9c9b70e614888830cc41be926e7313d8ed4a655", func := "suffrage/suffragelaw25.SheetSteady", spec := "sheetSteady", unfollowed := true, recurses := true, apart := false, narrowed := true }
def SheetSteadyUptoSaid : Prop := sheetSteadyUptoRow.holds Try.pinned (OpenSpec.upto sheetSteadySpec)

/-- 'suffragelaw25.SheetOrder', WHERE WHAT IT READS IS OF BULK AT MOST 1048576: true; the input reads as it did. -/
def sheetOrderUptoRow : OpenClaim := { program := "ytlfempfhohejiaa", sum := "0e9c6763980e2065c78d76e4e9c9b70e614888830cc41be926e7313d8ed4a655", func := "suffrage/suffragelaw25.SheetOrder", spec := "sheetOrder", unfollowed := true, recurses := true, apart := false, narrowed := true }
def SheetOrderUptoSaid : Prop := sheetOrderUptoRow.holds Try.pinned (OpenSpec.upto sheetOrderSpec)

/-- 'suffragelaw25.SheetMay', WHERE WHAT IT READS IS OF BULK AT MOST 1048576: true; the input reads as it did. -/
def sheetMayUptoRow : OpenClaim := { program := "ytlfempfhohejiaa", sum := "0e9c6763980e2065c78d76e4e9c9b70e614888830cc41be926e7313d8ed4a655", func := "suffrage/suffragelaw25.SheetMay", spec := "sheetMay", unfollowed := true, recurses := true, apart := false, narrowed := true }
def SheetMayUptoSaid : Prop := sheetMayUptoRow.holds Try.pinned (OpenSpec.upto sheetMaySpec)

/-- 'suffragelaw25.SheetNames', WHERE WHAT IT READS IS OF BULK AT MOST 1048576: true; the input reads as it did. -/
def sheetNamesUptoRow : OpenClaim := { program := "ytlfempfhohejiaa", sum := "0e9c6763980e2065c78d76e4e9c9b70e614888830cc41be926e7313d8ed4a655", func := "suffrage/suffragelaw25.SheetNames", spec := "sheetNames", unfollowed := true, recurses := true, apart := false, narrowed := true }
def SheetNamesUptoSaid : Prop := sheetNamesUptoRow.holds Try.pinned (OpenSpec.upto sheetNamesSpec)

/-- 'suffragelaw25.SheetBack', WHERE WHAT IT READS IS OF BULK AT MOST 1048576: true; the input reads as it did. -/
def sheetBackUptoRow : OpenClaim := { program := "ytlfempfhohejiaa", sum := "0e9c6763980e2065c78d76e4e9c9b70e614888830cc41be926e7313d8ed4a655", func := "suffrage/suffragelaw25.SheetBack", spec := "sheetBack", unfollowed := true, recurses := true, apart := false, narrowed := true }
def SheetBackUptoSaid : Prop := sheetBackUptoRow.holds Try.pinned (OpenSpec.upto sheetBackSpec)

end Rows
end Go.Proofs.Ytlfempfhohejiaa
