/-
  No cell of these rows narrows 'for every input' (looked for: loops, veiled, ifaces, maps, wideKeys, modest, calm, conditions, laid).
  DERIVED. THE GIVEN ROWS OF THIS SEAT. 8 by the template 'for every input the law returns true; each argument reads behind the call as it read before'; 0 by the template 'total and deterministic' (their statements: YtihjopclaihccaaTotals.lean).
  GIVEN WITH THE SEED: the statements are not yours to turn. If you find one false, say at which input.
  Laid BY PROGRAM, IN A SANDBOX (cutbox-rows.mjs): the forced cells as the released guide's own fill.sh prints them over the translation 856a4fe7449ab1f8… (all of the seat's roots in one cut). By AI agents, Wed Nov 11 2026. No macro, syntax, notation, axiom, sorry.
-/
import Derived.Test.YtihjopclaihccaaChecked
import GoSem.Claim
import GoSem.ClaimJoined
import GoSem.ClaimMapViews
import Derived.JoinedTies
import Derived.KernelRfl
namespace Go.Proofs.Ytihjopclaihccaa
/- THE CELL 'sum', in the pinned program and in every row, IS THE sha256 OF THE DUMP (.gsa) THAT YtihjopclaihccaaProg.lean LOADS. Nothing in Lean hashes anything: it is a label: what it is worth is what the hold of that sum in a sandbox is worth. -/
noncomputable def Try.pinned : Pinned := { name := "ytihjopclaihccaa", sum := "856a4fe7449ab1f893606b0165b81f770840ecac67776ee6de45f6fad145997c", checked := Try.checked }
namespace Rows
def none {H : Type} : Left H := { results := [], args := [] }

/-- 'suffragelaw01.OctetTells': WHATEVER THE INPUT: true; the input reads as it did. -/
def octetTellsSpec : ChangeSpec := { name := "octetTells", fn := fun _ => fun
  | [d1, d2, d3, d4] => { results := [.lit (.bool true)], args := [d1, d2, d3, d4] }
  | _ => none }
def octetTellsRow : OpenClaim := { program := "ytihjopclaihccaa", sum := "856a4fe7449ab1f893606b0165b81f770840ecac67776ee6de45f6fad145997c", func := "suffrage/suffragelaw01.OctetTells", spec := "octetTells", apart := false }
def OctetTellsSaid : Prop := octetTellsRow.holds Try.pinned (OpenSpec.ofChange octetTellsSpec)

/-- ITS FALSE NEIGHBOUR: 'it returns false'. Refute it at one input. -/
def octetTellsWrong : ChangeSpec := { name := "octetTells", fn := fun _ => fun
  | [d1, d2, d3, d4] => { results := [.lit (.bool false)], args := [d1, d2, d3, d4] }
  | _ => none }
def OctetTellsWrongFalsely : Prop := octetTellsRow.holds Try.pinned (OpenSpec.ofChange octetTellsWrong)

/-- 'suffragelaw01.OctetFields': WHATEVER THE INPUT: true; the input reads as it did. -/
def octetFieldsSpec : ChangeSpec := { name := "octetFields", fn := fun _ => fun
  | [d1, d2, d3] => { results := [.lit (.bool true)], args := [d1, d2, d3] }
  | _ => none }
def octetFieldsRow : OpenClaim := { program := "ytihjopclaihccaa", sum := "856a4fe7449ab1f893606b0165b81f770840ecac67776ee6de45f6fad145997c", func := "suffrage/suffragelaw01.OctetFields", spec := "octetFields", apart := false }
def OctetFieldsSaid : Prop := octetFieldsRow.holds Try.pinned (OpenSpec.ofChange octetFieldsSpec)

/-- ITS FALSE NEIGHBOUR: 'it returns false'. Refute it at one input. -/
def octetFieldsWrong : ChangeSpec := { name := "octetFields", fn := fun _ => fun
  | [d1, d2, d3] => { results := [.lit (.bool false)], args := [d1, d2, d3] }
  | _ => none }
def OctetFieldsWrongFalsely : Prop := octetFieldsRow.holds Try.pinned (OpenSpec.ofChange octetFieldsWrong)

/-- 'suffragelaw01.OctetSplits': WHATEVER THE INPUT: true; the input reads as it did. -/
def octetSplitsSpec : ChangeSpec := { name := "octetSplits", fn := fun _ => fun
  | [d1, d2] => { results := [.lit (.bool true)], args := [d1, d2] }
  | _ => none }
def octetSplitsRow : OpenClaim := { program := "ytihjopclaihccaa", sum := "856a4fe7449ab1f893606b0165b81f770840ecac67776ee6de45f6fad145997c", func := "suffrage/suffragelaw01.OctetSplits", spec := "octetSplits", unfollowed := true, recurses := true, apart := false }
def OctetSplitsSaid : Prop := octetSplitsRow.holds Try.pinned (OpenSpec.ofChange octetSplitsSpec)

/-- ITS FALSE NEIGHBOUR: 'it returns false'. Refute it at one input. -/
def octetSplitsWrong : ChangeSpec := { name := "octetSplits", fn := fun _ => fun
  | [d1, d2] => { results := [.lit (.bool false)], args := [d1, d2] }
  | _ => none }
def OctetSplitsWrongFalsely : Prop := octetSplitsRow.holds Try.pinned (OpenSpec.ofChange octetSplitsWrong)

/-- 'suffragelaw01.OctetBack': WHATEVER THE INPUT: true; the input reads as it did. -/
def octetBackSpec : ChangeSpec := { name := "octetBack", fn := fun _ => fun
  | [d1, d2, d3, d4] => { results := [.lit (.bool true)], args := [d1, d2, d3, d4] }
  | _ => none }
def octetBackRow : OpenClaim := { program := "ytihjopclaihccaa", sum := "856a4fe7449ab1f893606b0165b81f770840ecac67776ee6de45f6fad145997c", func := "suffrage/suffragelaw01.OctetBack", spec := "octetBack", unfollowed := true, recurses := true, apart := false }
def OctetBackSaid : Prop := octetBackRow.holds Try.pinned (OpenSpec.ofChange octetBackSpec)

/-- ITS FALSE NEIGHBOUR: 'it returns false'. Refute it at one input. -/
def octetBackWrong : ChangeSpec := { name := "octetBack", fn := fun _ => fun
  | [d1, d2, d3, d4] => { results := [.lit (.bool false)], args := [d1, d2, d3, d4] }
  | _ => none }
def OctetBackWrongFalsely : Prop := octetBackRow.holds Try.pinned (OpenSpec.ofChange octetBackWrong)

/-- 'suffragelaw01.OctetFieldBack': WHATEVER THE INPUT: true; the input reads as it did. -/
def octetFieldBackSpec : ChangeSpec := { name := "octetFieldBack", fn := fun _ => fun
  | [d1, d2, d3] => { results := [.lit (.bool true)], args := [d1, d2, d3] }
  | _ => none }
def octetFieldBackRow : OpenClaim := { program := "ytihjopclaihccaa", sum := "856a4fe7449ab1f893606b0165b81f770840ecac67776ee6de45f6fad145997c", func := "suffrage/suffragelaw01.OctetFieldBack", spec := "octetFieldBack", unfollowed := true, recurses := true, apart := false }
def OctetFieldBackSaid : Prop := octetFieldBackRow.holds Try.pinned (OpenSpec.ofChange octetFieldBackSpec)

/-- ITS FALSE NEIGHBOUR: 'it returns false'. Refute it at one input. -/
def octetFieldBackWrong : ChangeSpec := { name := "octetFieldBack", fn := fun _ => fun
  | [d1, d2, d3] => { results := [.lit (.bool false)], args := [d1, d2, d3] }
  | _ => none }
def OctetFieldBackWrongFalsely : Prop := octetFieldBackRow.holds Try.pinned (OpenSpec.ofChange octetFieldBackWrong)

/-- 'suffragelaw01.OctetOrder': WHATEVER THE INPUT: true; the input reads as it did. -/
def octetOrderSpec : ChangeSpec := { name := "octetOrder", fn := fun _ => fun
  | [d1, d2, d3] => { results := [.lit (.bool true)], args := [d1, d2, d3] }
  | _ => none }
def octetOrderRow : OpenClaim := { program := "ytihjopclaihccaa", sum := "856a4fe7449ab1f893606b0165b81f770840ecac67776ee6de45f6fad145997c", func := "suffrage/suffragelaw01.OctetOrder", spec := "octetOrder", unfollowed := true, recurses := true, apart := false }
def OctetOrderSaid : Prop := octetOrderRow.holds Try.pinned (OpenSpec.ofChange octetOrderSpec)

/-- ITS FALSE NEIGHBOUR: 'it returns false'. Refute it at one input. -/
def octetOrderWrong : ChangeSpec := { name := "octetOrder", fn := fun _ => fun
  | [d1, d2, d3] => { results := [.lit (.bool false)], args := [d1, d2, d3] }
  | _ => none }
def OctetOrderWrongFalsely : Prop := octetOrderRow.holds Try.pinned (OpenSpec.ofChange octetOrderWrong)

/-- 'suffragelaw01.OctetNames': WHATEVER THE INPUT: true; the input reads as it did. -/
def octetNamesSpec : ChangeSpec := { name := "octetNames", fn := fun _ => fun
  | [] => { results := [.lit (.bool true)], args := [] }
  | _ => none }
def octetNamesRow : OpenClaim := { program := "ytihjopclaihccaa", sum := "856a4fe7449ab1f893606b0165b81f770840ecac67776ee6de45f6fad145997c", func := "suffrage/suffragelaw01.OctetNames", spec := "octetNames", unfollowed := true, recurses := true, apart := false }
def OctetNamesSaid : Prop := octetNamesRow.holds Try.pinned (OpenSpec.ofChange octetNamesSpec)

/-- ITS FALSE NEIGHBOUR: 'it returns false'. Refute it at one input. -/
def octetNamesWrong : ChangeSpec := { name := "octetNames", fn := fun _ => fun
  | [] => { results := [.lit (.bool false)], args := [] }
  | _ => none }
def OctetNamesWrongFalsely : Prop := octetNamesRow.holds Try.pinned (OpenSpec.ofChange octetNamesWrong)

/-- 'suffragelaw01.OctetWhole': WHATEVER THE INPUT: true; the input reads as it did. -/
def octetWholeSpec : ChangeSpec := { name := "octetWhole", fn := fun _ => fun
  | [d1, d2] => { results := [.lit (.bool true)], args := [d1, d2] }
  | _ => none }
def octetWholeRow : OpenClaim := { program := "ytihjopclaihccaa", sum := "856a4fe7449ab1f893606b0165b81f770840ecac67776ee6de45f6fad145997c", func := "suffrage/suffragelaw01.OctetWhole", spec := "octetWhole", unfollowed := true, recurses := true, apart := false }
def OctetWholeSaid : Prop := octetWholeRow.holds Try.pinned (OpenSpec.ofChange octetWholeSpec)

/-- ITS FALSE NEIGHBOUR: 'it returns false'. Refute it at one input. -/
def octetWholeWrong : ChangeSpec := { name := "octetWhole", fn := fun _ => fun
  | [d1, d2] => { results := [.lit (.bool false)], args := [d1, d2] }
  | _ => none }
def OctetWholeWrongFalsely : Prop := octetWholeRow.holds Try.pinned (OpenSpec.ofChange octetWholeWrong)

/- THE SECOND FORM. 'bulk': how many values and letters a reading holds, each counted each time it is reached (what is shared counts as often as it is met; a slice's spare places count too). A statement '..UptoSaid' is the law's where the arguments, and the package variables that the reading takes, are together of bulk at most 1048576: NARROWER than '..Said'. Prove '..Said' where nothing that the law and all that it calls make is longer than what came in: it says more and counts as full. Else prove '..UptoSaid'. A law counts once. -/
mutual
def uptoBulk {H : Type} : DataW H → Nat
  | .lit (.string bytes) => bytes.length + 1
  | .lit _ => 1
  | .nil => 1
  | .ptr d => uptoBulk d + 1
  | .slice elems spare => uptoBulkAll elems + uptoBulkAll spare + 1
  | .agg parts => uptoBulkAll parts + 1
  | .iface _ d => uptoBulk d + 1
  | .map entries => uptoBulkEntries entries + 1
  | .held _ => 1
def uptoBulkAll {H : Type} : List (DataW H) → Nat
  | [] => 0
  | d :: r => uptoBulk d + uptoBulkAll r
def uptoBulkEntries {H : Type} : List (Lit × DataW H) → Nat
  | [] => 0
  | x :: r => uptoBulkEntry x + uptoBulkEntries r
def uptoBulkEntry {H : Type} : Lit × DataW H → Nat
  | (.string bytes, d) => bytes.length + uptoBulk d + 1
  | (_, d) => uptoBulk d + 1
 end
def uptoSmall : (H : Type) → List (DataW H) → Bool := fun _ ds => decide (uptoBulkAll ds ≤ 1048576)
def OpenSpec.upto (s : _root_.Go.ChangeSpec) : _root_.Go.OpenSpec := { _root_.Go.OpenSpec.ofChange s with cond := some uptoSmall }

/-- 'suffragelaw01.OctetTells', WHERE WHAT IT READS IS OF BULK AT MOST 1048576: true; the input reads as it did. -/
def octetTellsUptoRow : OpenClaim := { program := "ytihjopclaihccaa", sum := "856a4fe7449ab1f893606b0165b81f770840ecac67776ee6de45f6fad145997c", func := "suffrage/suffragelaw01.OctetTells", spec := "octetTells", apart := false, narrowed := true }
def OctetTellsUptoSaid : Prop := octetTellsUptoRow.holds Try.pinned (OpenSpec.upto octetTellsSpec)

/-- 'suffragelaw01.OctetFields', WHERE WHAT IT READS IS OF BULK AT MOST 1048576: true; the input reads as it did. -/
def octetFieldsUptoRow : OpenClaim := { program := "ytihjopclaihccaa", sum := "856a4fe7449ab1f893606b0165b81f770840ecac67776ee6de45f6fad145997c", func := "suffrage/suffragelaw01.OctetFields", spec := "octetFields", apart := false, narrowed := true }
def OctetFieldsUptoSaid : Prop := octetFieldsUptoRow.holds Try.pinned (OpenSpec.upto octetFieldsSpec)

/-- 'suffragelaw01.OctetSplits', WHERE WHAT IT READS IS OF BULK AT MOST 1048576: true; the input reads as it did. -/
def octetSplitsUptoRow : OpenClaim := { program := "ytihjopclaihccaa", sum := "856a4fe7449ab1f893606b0165b81f770840ecac67776ee6de45f6fad145997c", func := "suffrage/suffragelaw01.OctetSplits", spec := "octetSplits", unfollowed := true, recurses := true, apart := false, narrowed := true }
def OctetSplitsUptoSaid : Prop := octetSplitsUptoRow.holds Try.pinned (OpenSpec.upto octetSplitsSpec)

/-- 'suffragelaw01.OctetBack', WHERE WHAT IT READS IS OF BULK AT MOST 1048576: true; the input reads as it did. -/
def octetBackUptoRow : OpenClaim := { program := "ytihjopclaihccaa", sum := "856a4fe7449ab1f893606b0165b81f770840ecac67776ee6de45f6fad145997c", func := "suffrage/suffragelaw01.OctetBack", spec := "octetBack", unfollowed := true, recurses := true, apart := false, narrowed := true }
def OctetBackUptoSaid : Prop := octetBackUptoRow.holds Try.pinned (OpenSpec.upto octetBackSpec)

/-- 'suffragelaw01.OctetFieldBack', WHERE WHAT IT READS IS OF BULK AT MOST 1048576: true; the input reads as it did. -/
def octetFieldBackUptoRow : OpenClaim := { program := "ytihjopclaihccaa", sum := "856a4fe7449ab1f893606b0165b81f770840ecac67776ee6de45f6fad145997c", func := "suffrage/suffragelaw01.OctetFieldBack", spec := "octetFieldBack", unfollowed := true, recurses := true, apart := false, narrowed := true }
def OctetFieldBackUptoSaid : Prop := octetFieldBackUptoRow.holds Try.pinned (OpenSpec.upto octetFieldBackSpec)

/-- 'suffragelaw01.OctetOrder', WHERE WHAT IT READS IS OF BULK AT MOST 1048576: true; the input reads as it did. -/
def octetOrderUptoRow : OpenClaim := { program := "ytihjopclaihccaa", sum := "856a4fe7449ab1f893606b0165b81f770840ecac67776ee6de45f6fad145997c", func := "suffrage/suffragelaw01.OctetOrder", spec := "octetOrder", unfollowed := true, recurses := true, apart := false, narrowed := true }
def OctetOrderUptoSaid : Prop := octetOrderUptoRow.holds Try.pinned (OpenSpec.upto octetOrderSpec)

/-- 'suffragelaw01.OctetNames', WHERE WHAT IT READS IS OF BULK AT MOST 1048576: true; the input reads as it did. -/
def octetNamesUptoRow : OpenClaim := { program := "ytihjopclaihccaa", sum := "856a4fe7449ab1f893606b0165b81f770840ecac67776ee6de45f6fad145997c", func := "suffrage/suffragelaw01.OctetNames", spec := "octetNames", unfollowed := true, recurses := true, apart := false, narrowed := true }
def OctetNamesUptoSaid : Prop := octetNamesUptoRow.holds Try.pinned (OpenSpec.upto octetNamesSpec)

/-- 'suffragelaw01.OctetWhole', WHERE WHAT IT READS IS OF BULK AT MOST 1048576: true; the input reads as it did. -/
def octetWholeUptoRow : OpenClaim := { program := "ytihjopclaihccaa", sum := "856a4fe7449ab1f893606b0165b81f770840ecac67776ee6de45f6fad145997c", func := "suffrage/suffragelaw01.OctetWhole", spec := "octetWhole", unfollowed := true, recurses := true, apart := false, narrowed := true }
def OctetWholeUptoSaid : Prop := octetWholeUptoRow.holds Try.pinned (OpenSpec.upto octetWholeSpec)

end Rows
end Go.Proofs.Ytihjopclaihccaa
