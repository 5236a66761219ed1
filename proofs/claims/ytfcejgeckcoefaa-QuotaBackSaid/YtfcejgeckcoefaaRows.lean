/-
  No cell of these rows narrows 'for every input' (looked for: loops, veiled, ifaces, maps, wideKeys, modest, calm, conditions, laid).
  DERIVED. THE GIVEN ROWS OF THIS SEAT. 7 by the template 'for every input the law returns true; each argument reads behind the call as it read before'; 0 by the template 'total and deterministic' (their statements: YtfcejgeckcoefaaTotals.lean).
  GIVEN WITH THE SEED: the statements are not yours to turn. If you find one false, say at which input.
  Laid BY PROGRAM, IN A SANDBOX (cutbox-rows.mjs): the forced cells as the released guide's own fill.sh prints them over the translation 37e8d2607f21296f… (all of the seat's roots in one cut). By AI agents, Wed Nov 11 2026. No macro, syntax, notation, axiom, sorry.
-/
import Derived.Test.YtfcejgeckcoefaaChecked
import GoSem.Claim
import GoSem.ClaimJoined
import GoSem.ClaimMapViews
import Derived.JoinedTies
import Derived.KernelRfl
namespace Go.Proofs.Ytfcejgeckcoefaa
/- THE CELL 'sum', in the pinned program and in every row, IS THE sha256 OF THE DUMP (.gsa) THAT YtfcejgeckcoefaaProg.lean LOADS. Nothing in Lean hashes anything: it is a label: what it is worth is what the hold of that sum in a sandbox is worth. -/
noncomputable def Try.pinned : Pinned := { name := "ytfcejgeckcoefaa", sum := "37e8d2607f21296f9baeea4662ad26c594680c336280be1e54237b3320f62887", checked := Try.checked }
namespace Rows
def none {H : Type} : Left H := { results := [], args := [] }

/-- 'suffragelaw17.QuotaTells': WHATEVER THE INPUT: true; the input reads as it did. -/
def quotaTellsSpec : ChangeSpec := { name := "quotaTells", fn := fun _ => fun
  | [d1, d2] => { results := [.lit (.bool true)], args := [d1, d2] }
  | _ => none }
def quotaTellsRow : OpenClaim := { program := "ytfcejgeckcoefaa", sum := "37e8d2607f21296f9baeea4662ad26c594680c336280be1e54237b3320f62887", func := "suffrage/suffragelaw17.QuotaTells", spec := "quotaTells", unfollowed := true, recurses := true, named := ["math/bits.overflowError", "math/bits.divideError"], apart := false }
def QuotaTellsSaid : Prop := quotaTellsRow.holds Try.pinned (OpenSpec.ofChange quotaTellsSpec)

/-- ITS FALSE NEIGHBOUR: 'it returns false'. Refute it at one input. -/
def quotaTellsWrong : ChangeSpec := { name := "quotaTells", fn := fun _ => fun
  | [d1, d2] => { results := [.lit (.bool false)], args := [d1, d2] }
  | _ => none }
def QuotaTellsWrongFalsely : Prop := quotaTellsRow.holds Try.pinned (OpenSpec.ofChange quotaTellsWrong)

/-- 'suffragelaw17.QuotaDoes': WHATEVER THE INPUT: true; the input reads as it did. -/
def quotaDoesSpec : ChangeSpec := { name := "quotaDoes", fn := fun _ => fun
  | [d1, d2, d3, d4] => { results := [.lit (.bool true)], args := [d1, d2, d3, d4] }
  | _ => none }
def quotaDoesRow : OpenClaim := { program := "ytfcejgeckcoefaa", sum := "37e8d2607f21296f9baeea4662ad26c594680c336280be1e54237b3320f62887", func := "suffrage/suffragelaw17.QuotaDoes", spec := "quotaDoes", unfollowed := true, recurses := true, named := ["math/bits.overflowError", "math/bits.divideError"], apart := false }
def QuotaDoesSaid : Prop := quotaDoesRow.holds Try.pinned (OpenSpec.ofChange quotaDoesSpec)

/-- ITS FALSE NEIGHBOUR: 'it returns false'. Refute it at one input. -/
def quotaDoesWrong : ChangeSpec := { name := "quotaDoes", fn := fun _ => fun
  | [d1, d2, d3, d4] => { results := [.lit (.bool false)], args := [d1, d2, d3, d4] }
  | _ => none }
def QuotaDoesWrongFalsely : Prop := quotaDoesRow.holds Try.pinned (OpenSpec.ofChange quotaDoesWrong)

/-- 'suffragelaw17.QuotaLeast': WHATEVER THE INPUT: true; the input reads as it did. -/
def quotaLeastSpec : ChangeSpec := { name := "quotaLeast", fn := fun _ => fun
  | [d1, d2] => { results := [.lit (.bool true)], args := [d1, d2] }
  | _ => none }
def quotaLeastRow : OpenClaim := { program := "ytfcejgeckcoefaa", sum := "37e8d2607f21296f9baeea4662ad26c594680c336280be1e54237b3320f62887", func := "suffrage/suffragelaw17.QuotaLeast", spec := "quotaLeast", unfollowed := true, recurses := true, named := ["math/bits.overflowError", "math/bits.divideError"], apart := false }
def QuotaLeastSaid : Prop := quotaLeastRow.holds Try.pinned (OpenSpec.ofChange quotaLeastSpec)

/-- ITS FALSE NEIGHBOUR: 'it returns false'. Refute it at one input. -/
def quotaLeastWrong : ChangeSpec := { name := "quotaLeast", fn := fun _ => fun
  | [d1, d2] => { results := [.lit (.bool false)], args := [d1, d2] }
  | _ => none }
def QuotaLeastWrongFalsely : Prop := quotaLeastRow.holds Try.pinned (OpenSpec.ofChange quotaLeastWrong)

/-- 'suffragelaw17.QuotaShare': WHATEVER THE INPUT: true; the input reads as it did. -/
def quotaShareSpec : ChangeSpec := { name := "quotaShare", fn := fun _ => fun
  | [d1, d2, d3] => { results := [.lit (.bool true)], args := [d1, d2, d3] }
  | _ => none }
def quotaShareRow : OpenClaim := { program := "ytfcejgeckcoefaa", sum := "37e8d2607f21296f9baeea4662ad26c594680c336280be1e54237b3320f62887", func := "suffrage/suffragelaw17.QuotaShare", spec := "quotaShare", unfollowed := true, recurses := true, named := ["math/bits.divideError", "math/bits.overflowError"], apart := false }
def QuotaShareSaid : Prop := quotaShareRow.holds Try.pinned (OpenSpec.ofChange quotaShareSpec)

/-- ITS FALSE NEIGHBOUR: 'it returns false'. Refute it at one input. -/
def quotaShareWrong : ChangeSpec := { name := "quotaShare", fn := fun _ => fun
  | [d1, d2, d3] => { results := [.lit (.bool false)], args := [d1, d2, d3] }
  | _ => none }
def QuotaShareWrongFalsely : Prop := quotaShareRow.holds Try.pinned (OpenSpec.ofChange quotaShareWrong)

/-- 'suffragelaw17.QuotaOrder': WHATEVER THE INPUT: true; the input reads as it did. -/
def quotaOrderSpec : ChangeSpec := { name := "quotaOrder", fn := fun _ => fun
  | [d1, d2] => { results := [.lit (.bool true)], args := [d1, d2] }
  | _ => none }
def quotaOrderRow : OpenClaim := { program := "ytfcejgeckcoefaa", sum := "37e8d2607f21296f9baeea4662ad26c594680c336280be1e54237b3320f62887", func := "suffrage/suffragelaw17.QuotaOrder", spec := "quotaOrder", unfollowed := true, recurses := true, named := ["math/bits.overflowError", "math/bits.divideError"], apart := false }
def QuotaOrderSaid : Prop := quotaOrderRow.holds Try.pinned (OpenSpec.ofChange quotaOrderSpec)

/-- ITS FALSE NEIGHBOUR: 'it returns false'. Refute it at one input. -/
def quotaOrderWrong : ChangeSpec := { name := "quotaOrder", fn := fun _ => fun
  | [d1, d2] => { results := [.lit (.bool false)], args := [d1, d2] }
  | _ => none }
def QuotaOrderWrongFalsely : Prop := quotaOrderRow.holds Try.pinned (OpenSpec.ofChange quotaOrderWrong)

/-- 'suffragelaw17.QuotaDown': WHATEVER THE INPUT: true; the input reads as it did. -/
def quotaDownSpec : ChangeSpec := { name := "quotaDown", fn := fun _ => fun
  | [d1, d2] => { results := [.lit (.bool true)], args := [d1, d2] }
  | _ => none }
def quotaDownRow : OpenClaim := { program := "ytfcejgeckcoefaa", sum := "37e8d2607f21296f9baeea4662ad26c594680c336280be1e54237b3320f62887", func := "suffrage/suffragelaw17.QuotaDown", spec := "quotaDown", unfollowed := true, recurses := true, named := ["math/bits.overflowError", "math/bits.divideError"], apart := false }
def QuotaDownSaid : Prop := quotaDownRow.holds Try.pinned (OpenSpec.ofChange quotaDownSpec)

/-- ITS FALSE NEIGHBOUR: 'it returns false'. Refute it at one input. -/
def quotaDownWrong : ChangeSpec := { name := "quotaDown", fn := fun _ => fun
  | [d1, d2] => { results := [.lit (.bool false)], args := [d1, d2] }
  | _ => none }
def QuotaDownWrongFalsely : Prop := quotaDownRow.holds Try.pinned (OpenSpec.ofChange quotaDownWrong)

/-- 'suffragelaw17.QuotaBack': WHATEVER THE INPUT: true; the input reads as it did. -/
def quotaBackSpec : ChangeSpec := { name := "quotaBack", fn := fun _ => fun
  | [d1, d2] => { results := [.lit (.bool true)], args := [d1, d2] }
  | _ => none }
def quotaBackRow : OpenClaim := { program := "ytfcejgeckcoefaa", sum := "37e8d2607f21296f9baeea4662ad26c594680c336280be1e54237b3320f62887", func := "suffrage/suffragelaw17.QuotaBack", spec := "quotaBack", unfollowed := true, recurses := true, named := ["math/bits.overflowError", "math/bits.divideError"], apart := false }
def QuotaBackSaid : Prop := quotaBackRow.holds Try.pinned (OpenSpec.ofChange quotaBackSpec)

/-- ITS FALSE NEIGHBOUR: 'it returns false'. Refute it at one input. -/
def quotaBackWrong : ChangeSpec := { name := "quotaBack", fn := fun _ => fun
  | [d1, d2] => { results := [.lit (.bool false)], args := [d1, d2] }
  | _ => none }
def QuotaBackWrongFalsely : Prop := quotaBackRow.holds Try.pinned (OpenSpec.ofChange quotaBackWrong)

/- THE SECOND FORM. 'bulk': how many values and letters a reading holds, each counted each time it is reached (what is shared counts as often as it is met; a slice's spare places count too). A statement '..UptoSaid' is the law's where the arguments, and the package variables that the reading takes, are together of bulk at most 1048576: NARROWER than '..Said'. Prove '..Said' where nothing that the law and all that it calls make is longer than what came in: it says more and counts as full. Else prove '..UptoSaid'. A law counts once. -/
mutual
def uptoBulk {H : Type} : DataW H → Nat
  | .lit (.string bytes) => bytes.length + 1
  | .lit _ => 1
  | .nil => 1
  | .ptr d => uptoBulk d + 1
  | .slice elems spare => uptoBulkAll elems + uptoBulkAll spare + 1
  | .agg parts => uptoBulkAll parts + 1
  | .iface _ d => uptoBulk d + 1
  | .map entries => uptoBulkEntries entries + 1
  | .held _ => 1
def uptoBulkAll {H : Type} : List (DataW H) → Nat
  | [] => 0
  | d :: r => uptoBulk d + uptoBulkAll r
def uptoBulkEntries {H : Type} : List (Lit × DataW H) → Nat
  | [] => 0
  | x :: r => uptoBulkEntry x + uptoBulkEntries r
def uptoBulkEntry {H : Type} : Lit × DataW H → Nat
  | (.string bytes, d) => bytes.length + uptoBulk d + 1
  | (_, d) => uptoBulk d + 1
 end
def uptoSmall : (H : Type) → List (DataW H) → Bool := fun _ ds => decide (uptoBulkAll ds ≤ 1048576)
def OpenSpec.upto (s : _root_.Go.ChangeSpec) : _root_.Go.OpenSpec := { _root_.Go.OpenSpec.ofChange s with cond := some uptoSmall }

/-- 'suffragelaw17.QuotaTells', WHERE WHAT IT READS IS OF BULK AT MOST 1048576: true; the input reads as it did. -/
def quotaTellsUptoRow : OpenClaim := { program := "ytfcejgeckcoefaa", sum := "37e8d2607f21296f9baeea4662ad26c594680c336280be1e54237b3320f62887", func := "suffrage/suffragelaw17.QuotaTells", spec := "quotaTells", unfollowed := true, recurses := true, named := ["math/bits.overflowError", "math/bits.divideError"], apart := false, narrowed := true }
def QuotaTellsUptoSaid : Prop := quotaTellsUptoRow.holds Try.pinned (OpenSpec.upto quotaTellsSpec)

/-- 'suffragelaw17.QuotaDoes', WHERE WHAT IT READS IS OF BULK AT MOST 1048576: true; the input reads as it did. -/
def quotaDoesUptoRow : OpenClaim := { program := "ytfcejgeckcoefaa", sum := "37e8d2607f21296f9baeea4662ad26c594680c336280be1e54237b3320f62887", func := "suffrage/suffragelaw17.QuotaDoes", spec := "quotaDoes", unfollowed := true, recurses := true, named := ["math/bits.overflowError", "math/bits.divideError"], apart := false, narrowed := true }
def QuotaDoesUptoSaid : Prop := quotaDoesUptoRow.holds Try.pinned (OpenSpec.upto quotaDoesSpec)

/-- 'suffragelaw17.QuotaLeast', WHERE WHAT IT READS IS OF BULK AT MOST 1048576: true; the input reads as it did. -/
def quotaLeastUptoRow : OpenClaim := { program := "ytfcejgeckcoefaa", sum := "37e8d2607f21296f9baeea4662ad26c594680c336280be1e54237b3320f62887", func := "suffrage/suffragelaw17.QuotaLeast", spec := "quotaLeast", unfollowed := true, recurses := true, named := ["math/bits.overflowError", "math/bits.divideError"], apart := false, narrowed := true }
def QuotaLeastUptoSaid : Prop := quotaLeastUptoRow.holds Try.pinned (OpenSpec.upto quotaLeastSpec)

/-- 'suffragelaw17.QuotaShare', WHERE WHAT IT READS IS OF BULK AT MOST 1048576: true; the input reads as it did. -/
def quotaShareUptoRow : OpenClaim := { program := "ytfcejgeckcoefaa", sum := "37e8d2607f21296f9baeea4662ad26c594680c336280be1e54237b3320f62887", func := "suffrage/suffragelaw17.QuotaShare", spec := "quotaShare", unfollowed := true, recurses := true, named := ["math/bits.divideError", "math/bits.overflowError"], apart := false, narrowed := true }
def QuotaShareUptoSaid : Prop := quotaShareUptoRow.holds Try.pinned (OpenSpec.upto quotaShareSpec)

/-- 'suffragelaw17.QuotaOrder', WHERE WHAT IT READS IS OF BULK AT MOST 1048576: true; the input reads as it did. -/
def quotaOrderUptoRow : OpenClaim := { program := "ytfcejgeckcoefaa", sum := "37e8d2607f21296f9baeea4662ad26c594680c336280be1e54237b3320f62887", func := "suffrage/suffragelaw17.QuotaOrder", spec := "quotaOrder", unfollowed := true, recurses := true, named := ["math/bits.overflowError", "math/bits.divideError"], apart := false, narrowed := true }
def QuotaOrderUptoSaid : Prop := quotaOrderUptoRow.holds Try.pinned (OpenSpec.upto quotaOrderSpec)

/-- 'suffragelaw17.QuotaDown', WHERE WHAT IT READS IS OF BULK AT MOST 1048576: true; the input reads as it did. -/
def quotaDownUptoRow : OpenClaim := { program := "ytfcejgeckcoefaa", sum := "37e8d2607f21296f9baeea4662ad26c594680c336280be1e54237b3320f62887", func := "suffrage/suffragelaw17.QuotaDown", spec := "quotaDown", unfollowed := true, recurses := true, named := ["math/bits.overflowError", "math/bits.divideError"], apart := false, narrowed := true }
def QuotaDownUptoSaid : Prop := quotaDownUptoRow.holds Try.pinned (OpenSpec.upto quotaDownSpec)

/-- 'suffragelaw17.QuotaBack', WHERE WHAT IT READS IS OF BULK AT MOST 1048576: true; the input reads as it did. -/
def quotaBackUptoRow : OpenClaim := { program := "ytfcejgeckcoefaa", sum := "37e8d2607f21296f9baeea4662ad26c594680c336280be1e54237b3320f62887", func := "suffrage/suffragelaw17.QuotaBack", spec := "quotaBack", unfollowed := true, recurses := true, named := ["math/bits.overflowError", "math/bits.divideError"], apart := false, narrowed := true }
def QuotaBackUptoSaid : Prop := quotaBackUptoRow.holds Try.pinned (OpenSpec.upto quotaBackSpec)

end Rows
end Go.Proofs.Ytfcejgeckcoefaa
