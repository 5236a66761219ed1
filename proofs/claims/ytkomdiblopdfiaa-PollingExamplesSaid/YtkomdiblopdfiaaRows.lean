/-
  No cell of these rows narrows 'for every input' (looked for: loops, veiled, ifaces, maps, wideKeys, modest, calm, conditions, laid).
  DERIVED. THE GIVEN ROWS OF THIS SEAT. 7 by the template 'for every input the law returns true; each argument reads behind the call as it read before'; 0 by the template 'total and deterministic' (their statements: YtkomdiblopdfiaaTotals.lean).
  GIVEN WITH THE SEED: the statements are not yours to turn. If you find one false, say at which input.
  Laid BY PROGRAM, IN A SANDBOX (cutbox-rows.mjs): the forced cells as the released guide's own fill.sh prints them over the translation 7e9aac7dfbd2bc2d… (all of the seat's roots in one cut). By AI agents, Wed Nov 11 2026. No macro, syntax, notation, axiom, sorry.
-/
import Derived.Test.YtkomdiblopdfiaaChecked
import GoSem.Claim
import GoSem.ClaimJoined
import GoSem.ClaimMapViews
import Derived.JoinedTies
import Derived.KernelRfl
namespace Go.Proofs.Ytkomdiblopdfiaa
/- THE CELL 'sum', in the pinned program and in every row, IS THE sha256 OF THE DUMP (.gsa) THAT YtkomdiblopdfiaaProg.lean LOADS. Nothing in Lean hashes anything: it is a label: what it is worth is what the hold of that sum in a sandbox is worth. -/
noncomputable def Try.pinned : Pinned := { name := "ytkomdiblopdfiaa", sum := "7e9aac7dfbd2bc2d7ceb2e3d27f78d08bbec9ac9db8361ed4c6ae216d6c138d3", checked := Try.checked }
namespace Rows
def none {H : Type} : Left H := { results := [], args := [] }

/-- 'suffragelaw39.PollingExamples': WHATEVER THE INPUT: true; the input reads as it did. -/
def pollingExamplesSpec : ChangeSpec := { name := "pollingExamples", fn := fun _ => fun
  | [] => { results := [.lit (.bool true)], args := [] }
  | _ => none }
def pollingExamplesRow : OpenClaim := { program := "ytkomdiblopdfiaa", sum := "7e9aac7dfbd2bc2d7ceb2e3d27f78d08bbec9ac9db8361ed4c6ae216d6c138d3", func := "suffrage/suffragelaw39.PollingExamples", spec := "pollingExamples", unfollowed := true, recurses := true, named := ["math/bits.overflowError"], apart := false }
def PollingExamplesSaid : Prop := pollingExamplesRow.holds Try.pinned (OpenSpec.ofChange pollingExamplesSpec)

/-- ITS FALSE NEIGHBOUR: 'it returns false'. Refute it at one input. -/
def pollingExamplesWrong : ChangeSpec := { name := "pollingExamples", fn := fun _ => fun
  | [] => { results := [.lit (.bool false)], args := [] }
  | _ => none }
def PollingExamplesWrongFalsely : Prop := pollingExamplesRow.holds Try.pinned (OpenSpec.ofChange pollingExamplesWrong)

/-- 'suffragelaw39.PollingMatches': WHATEVER THE INPUT: true; the input reads as it did. -/
def pollingMatchesSpec : ChangeSpec := { name := "pollingMatches", fn := fun _ => fun
  | [d1, d2, d3, d4, d5] => { results := [.lit (.bool true)], args := [d1, d2, d3, d4, d5] }
  | _ => none }
def pollingMatchesRow : OpenClaim := { program := "ytkomdiblopdfiaa", sum := "7e9aac7dfbd2bc2d7ceb2e3d27f78d08bbec9ac9db8361ed4c6ae216d6c138d3", func := "suffrage/suffragelaw39.PollingMatches", spec := "pollingMatches", unfollowed := true, recurses := true, named := ["math/bits.overflowError"], apart := false }
def PollingMatchesSaid : Prop := pollingMatchesRow.holds Try.pinned (OpenSpec.ofChange pollingMatchesSpec)

/-- ITS FALSE NEIGHBOUR: 'it returns false'. Refute it at one input. -/
def pollingMatchesWrong : ChangeSpec := { name := "pollingMatches", fn := fun _ => fun
  | [d1, d2, d3, d4, d5] => { results := [.lit (.bool false)], args := [d1, d2, d3, d4, d5] }
  | _ => none }
def PollingMatchesWrongFalsely : Prop := pollingMatchesRow.holds Try.pinned (OpenSpec.ofChange pollingMatchesWrong)

/-- 'suffragelaw39.PollingSizeMatches': WHATEVER THE INPUT: true; the input reads as it did. -/
def pollingSizeMatchesSpec : ChangeSpec := { name := "pollingSizeMatches", fn := fun _ => fun
  | [d1, d2] => { results := [.lit (.bool true)], args := [d1, d2] }
  | _ => none }
def pollingSizeMatchesRow : OpenClaim := { program := "ytkomdiblopdfiaa", sum := "7e9aac7dfbd2bc2d7ceb2e3d27f78d08bbec9ac9db8361ed4c6ae216d6c138d3", func := "suffrage/suffragelaw39.PollingSizeMatches", spec := "pollingSizeMatches", unfollowed := true, recurses := true, named := ["math/bits.overflowError"], apart := false }
def PollingSizeMatchesSaid : Prop := pollingSizeMatchesRow.holds Try.pinned (OpenSpec.ofChange pollingSizeMatchesSpec)

/-- ITS FALSE NEIGHBOUR: 'it returns false'. Refute it at one input. -/
def pollingSizeMatchesWrong : ChangeSpec := { name := "pollingSizeMatches", fn := fun _ => fun
  | [d1, d2] => { results := [.lit (.bool false)], args := [d1, d2] }
  | _ => none }
def PollingSizeMatchesWrongFalsely : Prop := pollingSizeMatchesRow.holds Try.pinned (OpenSpec.ofChange pollingSizeMatchesWrong)

/-- 'suffragelaw39.PollingSupermartingale': WHATEVER THE INPUT: true; the input reads as it did. -/
def pollingSupermartingaleSpec : ChangeSpec := { name := "pollingSupermartingale", fn := fun _ => fun
  | [d1, d2] => { results := [.lit (.bool true)], args := [d1, d2] }
  | _ => none }
def pollingSupermartingaleRow : OpenClaim := { program := "ytkomdiblopdfiaa", sum := "7e9aac7dfbd2bc2d7ceb2e3d27f78d08bbec9ac9db8361ed4c6ae216d6c138d3", func := "suffrage/suffragelaw39.PollingSupermartingale", spec := "pollingSupermartingale", unfollowed := true, recurses := true, named := ["math/bits.overflowError"], apart := false }
def PollingSupermartingaleSaid : Prop := pollingSupermartingaleRow.holds Try.pinned (OpenSpec.ofChange pollingSupermartingaleSpec)

/-- ITS FALSE NEIGHBOUR: 'it returns false'. Refute it at one input. -/
def pollingSupermartingaleWrong : ChangeSpec := { name := "pollingSupermartingale", fn := fun _ => fun
  | [d1, d2] => { results := [.lit (.bool false)], args := [d1, d2] }
  | _ => none }
def PollingSupermartingaleWrongFalsely : Prop := pollingSupermartingaleRow.holds Try.pinned (OpenSpec.ofChange pollingSupermartingaleWrong)

/-- 'suffragelaw39.PollingBatches': WHATEVER THE INPUT: true; the input reads as it did. -/
def pollingBatchesSpec : ChangeSpec := { name := "pollingBatches", fn := fun _ => fun
  | [d1, d2, d3] => { results := [.lit (.bool true)], args := [d1, d2, d3] }
  | _ => none }
def pollingBatchesRow : OpenClaim := { program := "ytkomdiblopdfiaa", sum := "7e9aac7dfbd2bc2d7ceb2e3d27f78d08bbec9ac9db8361ed4c6ae216d6c138d3", func := "suffrage/suffragelaw39.PollingBatches", spec := "pollingBatches", unfollowed := true, recurses := true, named := ["math/bits.overflowError"], apart := false }
def PollingBatchesSaid : Prop := pollingBatchesRow.holds Try.pinned (OpenSpec.ofChange pollingBatchesSpec)

/-- ITS FALSE NEIGHBOUR: 'it returns false'. Refute it at one input. -/
def pollingBatchesWrong : ChangeSpec := { name := "pollingBatches", fn := fun _ => fun
  | [d1, d2, d3] => { results := [.lit (.bool false)], args := [d1, d2, d3] }
  | _ => none }
def PollingBatchesWrongFalsely : Prop := pollingBatchesRow.holds Try.pinned (OpenSpec.ofChange pollingBatchesWrong)

/-- 'suffragelaw39.PollingMonotone': WHATEVER THE INPUT: true; the input reads as it did. -/
def pollingMonotoneSpec : ChangeSpec := { name := "pollingMonotone", fn := fun _ => fun
  | [d1, d2, d3, d4] => { results := [.lit (.bool true)], args := [d1, d2, d3, d4] }
  | _ => none }
def pollingMonotoneRow : OpenClaim := { program := "ytkomdiblopdfiaa", sum := "7e9aac7dfbd2bc2d7ceb2e3d27f78d08bbec9ac9db8361ed4c6ae216d6c138d3", func := "suffrage/suffragelaw39.PollingMonotone", spec := "pollingMonotone", unfollowed := true, recurses := true, named := ["math/bits.overflowError"], apart := false }
def PollingMonotoneSaid : Prop := pollingMonotoneRow.holds Try.pinned (OpenSpec.ofChange pollingMonotoneSpec)

/-- ITS FALSE NEIGHBOUR: 'it returns false'. Refute it at one input. -/
def pollingMonotoneWrong : ChangeSpec := { name := "pollingMonotone", fn := fun _ => fun
  | [d1, d2, d3, d4] => { results := [.lit (.bool false)], args := [d1, d2, d3, d4] }
  | _ => none }
def PollingMonotoneWrongFalsely : Prop := pollingMonotoneRow.holds Try.pinned (OpenSpec.ofChange pollingMonotoneWrong)

/-- 'suffragelaw39.PollingSampleSize': WHATEVER THE INPUT: true; the input reads as it did. -/
def pollingSampleSizeSpec : ChangeSpec := { name := "pollingSampleSize", fn := fun _ => fun
  | [d1, d2, d3] => { results := [.lit (.bool true)], args := [d1, d2, d3] }
  | _ => none }
def pollingSampleSizeRow : OpenClaim := { program := "ytkomdiblopdfiaa", sum := "7e9aac7dfbd2bc2d7ceb2e3d27f78d08bbec9ac9db8361ed4c6ae216d6c138d3", func := "suffrage/suffragelaw39.PollingSampleSize", spec := "pollingSampleSize", unfollowed := true, recurses := true, named := ["math/bits.overflowError"], apart := false }
def PollingSampleSizeSaid : Prop := pollingSampleSizeRow.holds Try.pinned (OpenSpec.ofChange pollingSampleSizeSpec)

/-- ITS FALSE NEIGHBOUR: 'it returns false'. Refute it at one input. -/
def pollingSampleSizeWrong : ChangeSpec := { name := "pollingSampleSize", fn := fun _ => fun
  | [d1, d2, d3] => { results := [.lit (.bool false)], args := [d1, d2, d3] }
  | _ => none }
def PollingSampleSizeWrongFalsely : Prop := pollingSampleSizeRow.holds Try.pinned (OpenSpec.ofChange pollingSampleSizeWrong)

/- THE SECOND FORM. 'bulk': how many values and letters a reading holds, each counted each time it is reached (what is shared counts as often as it is met; a slice's spare places count too). A statement '..UptoSaid' is the law's where the arguments, and the package variables that the reading takes, are together of bulk at most 1048576: NARROWER than '..Said'. Prove '..Said' where nothing that the law and all that it calls make is longer than what came in: it says more and counts as full. Else prove '..UptoSaid'. A law counts once. -/
mutual
def uptoBulk {H : Type} : DataW H → Nat
  | .lit (.string bytes) => bytes.length + 1
  | .lit _ => 1
  | .nil => 1
  | .ptr d => uptoBulk d + 1
  | .slice elems spare => uptoBulkAll elems + uptoBulkAll spare + 1
  | .agg parts => uptoBulkAll parts + 1
  | .iface _ d => uptoBulk d + 1
  | .map entries => uptoBulkEntries entries + 1
  | .held _ => 1
def uptoBulkAll {H : Type} : List (DataW H) → Nat
  | [] => 0
  | d :: r => uptoBulk d + uptoBulkAll r
def uptoBulkEntries {H : Type} : List (Lit × DataW H) → Nat
  | [] => 0
  | x :: r => uptoBulkEntry x + uptoBulkEntries r
def uptoBulkEntry {H : Type} : Lit × DataW H → Nat
  | (.string bytes, d) => bytes.length + uptoBulk d + 1
  | (_, d) => uptoBulk d + 1
 end
def uptoSmall : (H : Type) → List (DataW H) → Bool := fun _ ds => decide (uptoBulkAll ds ≤ 1048576)
def OpenSpec.upto (s : _root_.Go.ChangeSpec) : _root_.Go.OpenSpec := { _root_.Go.OpenSpec.ofChange s with cond := some uptoSmall }

/-- 'suffragelaw39.PollingExamples', WHERE WHAT IT READS IS OF BULK AT MOST 1048576: true; the input reads as it did. -/
def pollingExamplesUptoRow : OpenClaim := { program := "ytkomdiblopdfiaa", sum := "7e9aac7dfbd2bc2d7ceb2e3d27f78d08bbec9ac9db8361ed4c6ae216d6c138d3", func := "suffrage/suffragelaw39.PollingExamples", spec := "pollingExamples", unfollowed := true, recurses := true, named := ["math/bits.overflowError"], apart := false, narrowed := true }
def PollingExamplesUptoSaid : Prop := pollingExamplesUptoRow.holds Try.pinned (OpenSpec.upto pollingExamplesSpec)

/-- 'suffragelaw39.PollingMatches', WHERE WHAT IT READS IS OF BULK AT MOST 1048576: true; the input reads as it did. -/
def pollingMatchesUptoRow : OpenClaim := { program := "ytkomdiblopdfiaa", sum := "7e9aac7dfbd2bc2d7ceb2e3d27f78d08bbec9ac9db8361ed4c6ae216d6c138d3", func := "suffrage/suffragelaw39.PollingMatches", spec := "pollingMatches", unfollowed := true, recurses := true, named := ["math/bits.overflowError"], apart := false, narrowed := true }
def PollingMatchesUptoSaid : Prop := pollingMatchesUptoRow.holds Try.pinned (OpenSpec.upto pollingMatchesSpec)

/-- 'suffragelaw39.PollingSizeMatches', WHERE WHAT IT READS IS OF BULK AT MOST 1048576: true; the input reads as it did. -/
def pollingSizeMatchesUptoRow : OpenClaim := { program := "ytkomdiblopdfiaa", sum := "7e9aac7dfbd2bc2d7ceb2e3d27f78d08bbec9ac9db8361ed4c6ae216d6c138d3", func := "suffrage/suffragelaw39.PollingSizeMatches", spec := "pollingSizeMatches", unfollowed := true, recurses := true, named := ["math/bits.overflowError"], apart := false, narrowed := true }
def PollingSizeMatchesUptoSaid : Prop := pollingSizeMatchesUptoRow.holds Try.pinned (OpenSpec.upto pollingSizeMatchesSpec)

/-- 'suffragelaw39.PollingSupermartingale', WHERE WHAT IT READS IS OF BULK AT MOST 1048576: true; the input reads as it did. -/
def pollingSupermartingaleUptoRow : OpenClaim := { program := "ytkomdiblopdfiaa", sum := "7e9aac7dfbd2bc2d7ceb2e3d27f78d08bbec9ac9db8361ed4c6ae216d6c138d3", func := "suffrage/suffragelaw39.PollingSupermartingale", spec := "pollingSupermartingale", unfollowed := true, recurses := true, named := ["math/bits.overflowError"], apart := false, narrowed := true }
def PollingSupermartingaleUptoSaid : Prop := pollingSupermartingaleUptoRow.holds Try.pinned (OpenSpec.upto pollingSupermartingaleSpec)

/-- 'suffragelaw39.PollingBatches', WHERE WHAT IT READS IS OF BULK AT MOST 1048576: true; the input reads as it did. -/
def pollingBatchesUptoRow : OpenClaim := { program := "ytkomdiblopdfiaa", sum := "7e9aac7dfbd2bc2d7ceb2e3d27f78d08bbec9ac9db8361ed4c6ae216d6c138d3", func := "suffrage/suffragelaw39.PollingBatches", spec := "pollingBatches", unfollowed := true, recurses := true, named := ["math/bits.overflowError"], apart := false, narrowed := true }
def PollingBatchesUptoSaid : Prop := pollingBatchesUptoRow.holds Try.pinned (OpenSpec.upto pollingBatchesSpec)

/-- 'suffragelaw39.PollingMonotone', WHERE WHAT IT READS IS OF BULK AT MOST 1048576: true; the input reads as it did. -/
def pollingMonotoneUptoRow : OpenClaim := { program := "ytkomdiblopdfiaa", sum := "7e9aac7dfbd2bc2d7ceb2e3d27f78d08bbec9ac9db8361ed4c6ae216d6c138d3", func := "suffrage/suffragelaw39.PollingMonotone", spec := "pollingMonotone", unfollowed := true, recurses := true, named := ["math/bits.overflowError"], apart := false, narrowed := true }
def PollingMonotoneUptoSaid : Prop := pollingMonotoneUptoRow.holds Try.pinned (OpenSpec.upto pollingMonotoneSpec)

/-- 'suffragelaw39.PollingSampleSize', WHERE WHAT IT READS IS OF BULK AT MOST 1048576: true; the input reads as it did. -/
def pollingSampleSizeUptoRow : OpenClaim := { program := "ytkomdiblopdfiaa", sum := "7e9aac7dfbd2bc2d7ceb2e3d27f78d08bbec9ac9db8361ed4c6ae216d6c138d3", func := "suffrage/suffragelaw39.PollingSampleSize", spec := "pollingSampleSize", unfollowed := true, recurses := true, named := ["math/bits.overflowError"], apart := false, narrowed := true }
def PollingSampleSizeUptoSaid : Prop := pollingSampleSizeUptoRow.holds Try.pinned (OpenSpec.upto pollingSampleSizeSpec)

end Rows
end Go.Proofs.Ytkomdiblopdfiaa
