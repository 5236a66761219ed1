/-
  No cell of these rows narrows 'for every input' (looked for: loops, veiled, ifaces, maps, wideKeys, modest, calm, conditions, laid).
  DERIVED. THE GIVEN ROWS OF THIS SEAT. 7 by the template 'for every input the law returns true; each argument reads behind the call as it read before'; 0 by the template 'total and deterministic' (their statements: YtmkcdlhhbnakiaaTotals.lean).
  GIVEN WITH THE SEED: the statements are not yours to turn. If you find one false, say at which input.
  Laid BY PROGRAM, IN A SANDBOX (cutbox-rows.mjs): the forced cells as the released guide's own fill.sh prints them over the translation 5ac5ef7629965a9d… (all of the seat's roots in one cut). By AI agents, Wed Nov 11 2026. No macro, syntax, notation, axiom, sorry.
-/
import Derived.Test.YtmkcdlhhbnakiaaChecked
import GoSem.Claim
import GoSem.ClaimJoined
import GoSem.ClaimMapViews
import Derived.JoinedTies
import Derived.KernelRfl
namespace Go.Proofs.Ytmkcdlhhbnakiaa
/- THE CELL 'sum', in the pinned program and in every row, IS THE sha256 OF THE DUMP (.gsa) THAT YtmkcdlhhbnakiaaProg.lean LOADS. Nothing in Lean hashes anything: it is a label: what it is worth is what the hold of that sum in a sandbox is worth. -/
noncomputable def Try.pinned : Pinned := { name := "ytmkcdlhhbnakiaa", sum := "5ac5ef7629965a9d0114646c374cc5300c3ff31cc9523f4580f8272a3c0ea801", checked := Try.checked }
namespace Rows
def none {H : Type} : Left H := { results := [], args := [] }

/-- 'suffragelaw40.CompareExamples': WHATEVER THE INPUT: true; the input reads as it did. -/
def compareExamplesSpec : ChangeSpec := { name := "compareExamples", fn := fun _ => fun
  | [] => { results := [.lit (.bool true)], args := [] }
  | _ => none }
def compareExamplesRow : OpenClaim := { program := "ytmkcdlhhbnakiaa", sum := "5ac5ef7629965a9d0114646c374cc5300c3ff31cc9523f4580f8272a3c0ea801", func := "suffrage/suffragelaw40.CompareExamples", spec := "compareExamples", unfollowed := true, recurses := true, named := ["math/bits.overflowError"], apart := false }
def CompareExamplesSaid : Prop := compareExamplesRow.holds Try.pinned (OpenSpec.ofChange compareExamplesSpec)

/-- ITS FALSE NEIGHBOUR: 'it returns false'. Refute it at one input. -/
def compareExamplesWrong : ChangeSpec := { name := "compareExamples", fn := fun _ => fun
  | [] => { results := [.lit (.bool false)], args := [] }
  | _ => none }
def CompareExamplesWrongFalsely : Prop := compareExamplesRow.holds Try.pinned (OpenSpec.ofChange compareExamplesWrong)

/-- 'suffragelaw40.CompareSizeMatches': WHATEVER THE INPUT: true; the input reads as it did. -/
def compareSizeMatchesSpec : ChangeSpec := { name := "compareSizeMatches", fn := fun _ => fun
  | [d1, d2, d3, d4] => { results := [.lit (.bool true)], args := [d1, d2, d3, d4] }
  | _ => none }
def compareSizeMatchesRow : OpenClaim := { program := "ytmkcdlhhbnakiaa", sum := "5ac5ef7629965a9d0114646c374cc5300c3ff31cc9523f4580f8272a3c0ea801", func := "suffrage/suffragelaw40.CompareSizeMatches", spec := "compareSizeMatches", unfollowed := true, recurses := true, named := ["math/bits.overflowError"], apart := false }
def CompareSizeMatchesSaid : Prop := compareSizeMatchesRow.holds Try.pinned (OpenSpec.ofChange compareSizeMatchesSpec)

/-- ITS FALSE NEIGHBOUR: 'it returns false'. Refute it at one input. -/
def compareSizeMatchesWrong : ChangeSpec := { name := "compareSizeMatches", fn := fun _ => fun
  | [d1, d2, d3, d4] => { results := [.lit (.bool false)], args := [d1, d2, d3, d4] }
  | _ => none }
def CompareSizeMatchesWrongFalsely : Prop := compareSizeMatchesRow.holds Try.pinned (OpenSpec.ofChange compareSizeMatchesWrong)

/-- 'suffragelaw40.CompareSupermartingale': WHATEVER THE INPUT: true; the input reads as it did. -/
def compareSupermartingaleSpec : ChangeSpec := { name := "compareSupermartingale", fn := fun _ => fun
  | [d1, d2, d3, d4, d5] => { results := [.lit (.bool true)], args := [d1, d2, d3, d4, d5] }
  | _ => none }
def compareSupermartingaleRow : OpenClaim := { program := "ytmkcdlhhbnakiaa", sum := "5ac5ef7629965a9d0114646c374cc5300c3ff31cc9523f4580f8272a3c0ea801", func := "suffrage/suffragelaw40.CompareSupermartingale", spec := "compareSupermartingale", unfollowed := true, recurses := true, named := ["math/bits.overflowError"], apart := false }
def CompareSupermartingaleSaid : Prop := compareSupermartingaleRow.holds Try.pinned (OpenSpec.ofChange compareSupermartingaleSpec)

/-- ITS FALSE NEIGHBOUR: 'it returns false'. Refute it at one input. -/
def compareSupermartingaleWrong : ChangeSpec := { name := "compareSupermartingale", fn := fun _ => fun
  | [d1, d2, d3, d4, d5] => { results := [.lit (.bool false)], args := [d1, d2, d3, d4, d5] }
  | _ => none }
def CompareSupermartingaleWrongFalsely : Prop := compareSupermartingaleRow.holds Try.pinned (OpenSpec.ofChange compareSupermartingaleWrong)

/-- 'suffragelaw40.CompareBatches': WHATEVER THE INPUT: true; the input reads as it did. -/
def compareBatchesSpec : ChangeSpec := { name := "compareBatches", fn := fun _ => fun
  | [d1, d2, d3] => { results := [.lit (.bool true)], args := [d1, d2, d3] }
  | _ => none }
def compareBatchesRow : OpenClaim := { program := "ytmkcdlhhbnakiaa", sum := "5ac5ef7629965a9d0114646c374cc5300c3ff31cc9523f4580f8272a3c0ea801", func := "suffrage/suffragelaw40.CompareBatches", spec := "compareBatches", unfollowed := true, recurses := true, named := ["math/bits.overflowError"], apart := false }
def CompareBatchesSaid : Prop := compareBatchesRow.holds Try.pinned (OpenSpec.ofChange compareBatchesSpec)

/-- ITS FALSE NEIGHBOUR: 'it returns false'. Refute it at one input. -/
def compareBatchesWrong : ChangeSpec := { name := "compareBatches", fn := fun _ => fun
  | [d1, d2, d3] => { results := [.lit (.bool false)], args := [d1, d2, d3] }
  | _ => none }
def CompareBatchesWrongFalsely : Prop := compareBatchesRow.holds Try.pinned (OpenSpec.ofChange compareBatchesWrong)

/-- 'suffragelaw40.CompareMatches': WHATEVER THE INPUT: true; the input reads as it did. -/
def compareMatchesSpec : ChangeSpec := { name := "compareMatches", fn := fun _ => fun
  | [d1, d2, d3, d4, d5, d6, d7, d8, d9] => { results := [.lit (.bool true)], args := [d1, d2, d3, d4, d5, d6, d7, d8, d9] }
  | _ => none }
def compareMatchesRow : OpenClaim := { program := "ytmkcdlhhbnakiaa", sum := "5ac5ef7629965a9d0114646c374cc5300c3ff31cc9523f4580f8272a3c0ea801", func := "suffrage/suffragelaw40.CompareMatches", spec := "compareMatches", unfollowed := true, recurses := true, named := ["math/bits.overflowError"], apart := false }
def CompareMatchesSaid : Prop := compareMatchesRow.holds Try.pinned (OpenSpec.ofChange compareMatchesSpec)

/-- ITS FALSE NEIGHBOUR: 'it returns false'. Refute it at one input. -/
def compareMatchesWrong : ChangeSpec := { name := "compareMatches", fn := fun _ => fun
  | [d1, d2, d3, d4, d5, d6, d7, d8, d9] => { results := [.lit (.bool false)], args := [d1, d2, d3, d4, d5, d6, d7, d8, d9] }
  | _ => none }
def CompareMatchesWrongFalsely : Prop := compareMatchesRow.holds Try.pinned (OpenSpec.ofChange compareMatchesWrong)

/-- 'suffragelaw40.CompareMonotone': WHATEVER THE INPUT: true; the input reads as it did. -/
def compareMonotoneSpec : ChangeSpec := { name := "compareMonotone", fn := fun _ => fun
  | [d1, d2, d3, d4] => { results := [.lit (.bool true)], args := [d1, d2, d3, d4] }
  | _ => none }
def compareMonotoneRow : OpenClaim := { program := "ytmkcdlhhbnakiaa", sum := "5ac5ef7629965a9d0114646c374cc5300c3ff31cc9523f4580f8272a3c0ea801", func := "suffrage/suffragelaw40.CompareMonotone", spec := "compareMonotone", unfollowed := true, recurses := true, named := ["math/bits.overflowError"], apart := false }
def CompareMonotoneSaid : Prop := compareMonotoneRow.holds Try.pinned (OpenSpec.ofChange compareMonotoneSpec)

/-- ITS FALSE NEIGHBOUR: 'it returns false'. Refute it at one input. -/
def compareMonotoneWrong : ChangeSpec := { name := "compareMonotone", fn := fun _ => fun
  | [d1, d2, d3, d4] => { results := [.lit (.bool false)], args := [d1, d2, d3, d4] }
  | _ => none }
def CompareMonotoneWrongFalsely : Prop := compareMonotoneRow.holds Try.pinned (OpenSpec.ofChange compareMonotoneWrong)

/-- 'suffragelaw40.CompareSampleSize': WHATEVER THE INPUT: true; the input reads as it did. -/
def compareSampleSizeSpec : ChangeSpec := { name := "compareSampleSize", fn := fun _ => fun
  | [d1, d2, d3, d4, d5] => { results := [.lit (.bool true)], args := [d1, d2, d3, d4, d5] }
  | _ => none }
def compareSampleSizeRow : OpenClaim := { program := "ytmkcdlhhbnakiaa", sum := "5ac5ef7629965a9d0114646c374cc5300c3ff31cc9523f4580f8272a3c0ea801", func := "suffrage/suffragelaw40.CompareSampleSize", spec := "compareSampleSize", unfollowed := true, recurses := true, named := ["math/bits.overflowError"], apart := false }
def CompareSampleSizeSaid : Prop := compareSampleSizeRow.holds Try.pinned (OpenSpec.ofChange compareSampleSizeSpec)

/-- ITS FALSE NEIGHBOUR: 'it returns false'. Refute it at one input. -/
def compareSampleSizeWrong : ChangeSpec := { name := "compareSampleSize", fn := fun _ => fun
  | [d1, d2, d3, d4, d5] => { results := [.lit (.bool false)], args := [d1, d2, d3, d4, d5] }
  | _ => none }
def CompareSampleSizeWrongFalsely : Prop := compareSampleSizeRow.holds Try.pinned (OpenSpec.ofChange compareSampleSizeWrong)

/- THE SECOND FORM. 'bulk': how many values and letters a reading holds, each counted each time it is reached (what is shared counts as often as it is met; a slice's spare places count too). A statement '..UptoSaid' is the law's where the arguments, and the package variables that the reading takes, are together of bulk at most 1048576: NARROWER than '..Said'. Prove '..Said' where nothing that the law and all that it calls make is longer than what came in: it says more and counts as full. Else prove '..UptoSaid'. A law counts once. -/
mutual
def uptoBulk {H : Type} : DataW H → Nat
  | .lit (.string bytes) => bytes.length + 1
  | .lit _ => 1
  | .nil => 1
  | .ptr d => uptoBulk d + 1
  | .slice elems spare => uptoBulkAll elems + uptoBulkAll spare + 1
  | .agg parts => uptoBulkAll parts + 1
  | .iface _ d => uptoBulk d + 1
  | .map entries => uptoBulkEntries entries + 1
  | .held _ => 1
def uptoBulkAll {H : Type} : List (DataW H) → Nat
  | [] => 0
  | d :: r => uptoBulk d + uptoBulkAll r
def uptoBulkEntries {H : Type} : List (Lit × DataW H) → Nat
  | [] => 0
  | x :: r => uptoBulkEntry x + uptoBulkEntries r
def uptoBulkEntry {H : Type} : Lit × DataW H → Nat
  | (.string bytes, d) => bytes.length + uptoBulk d + 1
  | (_, d) => uptoBulk d + 1
 end
def uptoSmall : (H : Type) → List (DataW H) → Bool := fun _ ds => decide (uptoBulkAll ds ≤ 1048576)
def OpenSpec.upto (s : _root_.Go.ChangeSpec) : _root_.Go.OpenSpec := { _root_.Go.OpenSpec.ofChange s with cond := some uptoSmall }

/-- 'suffragelaw40.CompareExamples', WHERE WHAT IT READS IS OF BULK AT MOST 1048576: true; the input reads as it did. -/
def compareExamplesUptoRow : OpenClaim := { program := "ytmkcdlhhbnakiaa", sum := "5ac5ef7629965a9d0114646c374cc5300c3ff31cc9523f4580f8272a3c0ea801", func := "suffrage/suffragelaw40.CompareExamples", spec := "compareExamples", unfollowed := true, recurses := true, named := ["math/bits.overflowError"], apart := false, narrowed := true }
def CompareExamplesUptoSaid : Prop := compareExamplesUptoRow.holds Try.pinned (OpenSpec.upto compareExamplesSpec)

/-- 'suffragelaw40.CompareSizeMatches', WHERE WHAT IT READS IS OF BULK AT MOST 1048576: true; the input reads as it did. -/
def compareSizeMatchesUptoRow : OpenClaim := { program := "ytmkcdlhhbnakiaa", sum := "5ac5ef7629965a9d0114646c374cc5300c3ff31cc9523f4580f8272a3c0ea801", func := "suffrage/suffragelaw40.CompareSizeMatches", spec := "compareSizeMatches", unfollowed := true, recurses := true, named := ["math/bits.overflowError"], apart := false, narrowed := true }
def CompareSizeMatchesUptoSaid : Prop := compareSizeMatchesUptoRow.holds Try.pinned (OpenSpec.upto compareSizeMatchesSpec)

/-- 'suffragelaw40.CompareSupermartingale', WHERE WHAT IT READS IS OF BULK AT MOST 1048576: true; the input reads as it did. -/
def compareSupermartingaleUptoRow : OpenClaim := { program := "ytmkcdlhhbnakiaa", sum := "5ac5ef7629965a9d0114646c374cc5300c3ff31cc9523f4580f8272a3c0ea801", func := "suffrage/suffragelaw40.CompareSupermartingale", spec := "compareSupermartingale", unfollowed := true, recurses := true, named := ["math/bits.overflowError"], apart := false, narrowed := true }
def CompareSupermartingaleUptoSaid : Prop := compareSupermartingaleUptoRow.holds Try.pinned (OpenSpec.upto compareSupermartingaleSpec)

/-- 'suffragelaw40.CompareBatches', WHERE WHAT IT READS IS OF BULK AT MOST 1048576: true; the input reads as it did. -/
def compareBatchesUptoRow : OpenClaim := { program := "ytmkcdlhhbnakiaa", sum := "5ac5ef7629965a9d0114646c374cc5300c3ff31cc9523f4580f8272a3c0ea801", func := "suffrage/suffragelaw40.CompareBatches", spec := "compareBatches", unfollowed := true, recurses := true, named := ["math/bits.overflowError"], apart := false, narrowed := true }
def CompareBatchesUptoSaid : Prop := compareBatchesUptoRow.holds Try.pinned (OpenSpec.upto compareBatchesSpec)

/-- 'suffragelaw40.CompareMatches', WHERE WHAT IT READS IS OF BULK AT MOST 1048576: true; the input reads as it did. -/
def compareMatchesUptoRow : OpenClaim := { program := "ytmkcdlhhbnakiaa", sum := "5ac5ef7629965a9d0114646c374cc5300c3ff31cc9523f4580f8272a3c0ea801", func := "suffrage/suffragelaw40.CompareMatches", spec := "compareMatches", unfollowed := true, recurses := true, named := ["math/bits.overflowError"], apart := false, narrowed := true }
def CompareMatchesUptoSaid : Prop := compareMatchesUptoRow.holds Try.pinned (OpenSpec.upto compareMatchesSpec)

/-- 'suffragelaw40.CompareMonotone', WHERE WHAT IT READS IS OF BULK AT MOST 1048576: true; the input reads as it did. -/
def compareMonotoneUptoRow : OpenClaim := { program := "ytmkcdlhhbnakiaa", sum := "5ac5ef7629965a9d0114646c374cc5300c3ff31cc9523f4580f8272a3c0ea801", func := "suffrage/suffragelaw40.CompareMonotone", spec := "compareMonotone", unfollowed := true, recurses := true, named := ["math/bits.overflowError"], apart := false, narrowed := true }
def CompareMonotoneUptoSaid : Prop := compareMonotoneUptoRow.holds Try.pinned (OpenSpec.upto compareMonotoneSpec)

/-- 'suffragelaw40.CompareSampleSize', WHERE WHAT IT READS IS OF BULK AT MOST 1048576: true; the input reads as it did. -/
def compareSampleSizeUptoRow : OpenClaim := { program := "ytmkcdlhhbnakiaa", sum := "5ac5ef7629965a9d0114646c374cc5300c3ff31cc9523f4580f8272a3c0ea801", func := "suffrage/suffragelaw40.CompareSampleSize", spec := "compareSampleSize", unfollowed := true, recurses := true, named := ["math/bits.overflowError"], apart := false, narrowed := true }
def CompareSampleSizeUptoSaid : Prop := compareSampleSizeUptoRow.holds Try.pinned (OpenSpec.upto compareSampleSizeSpec)

end Rows
end Go.Proofs.Ytmkcdlhhbnakiaa
