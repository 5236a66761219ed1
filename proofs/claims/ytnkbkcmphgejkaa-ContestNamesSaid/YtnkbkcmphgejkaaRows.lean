/-
  No cell of these rows narrows 'for every input' (looked for: loops, veiled, ifaces, maps, wideKeys, modest, calm, conditions, laid).
  DERIVED. THE GIVEN ROWS OF THIS SEAT. 7 by the template 'for every input the law returns true; each argument reads behind the call as it read before'; 0 by the template 'total and deterministic' (their statements: YtnkbkcmphgejkaaTotals.lean).
  GIVEN WITH THE SEED: the statements are not yours to turn. If you find one false, say at which input.
  Laid BY PROGRAM, IN A SANDBOX (cutbox-rows.mjs): the forced cells as the released guide's own fill.sh prints them over the translation a65237b6133e6351… (all of the seat's roots in one cut). By AI agents, Wed Nov 11 2026. No macro, syntax, notation, axiom, sorry.
-/
import Derived.Test.YtnkbkcmphgejkaaChecked
import GoSem.Claim
import GoSem.ClaimJoined
import GoSem.ClaimMapViews
import Derived.JoinedTies
import Derived.KernelRfl
namespace Go.Proofs.Ytnkbkcmphgejkaa
/- THE CELL 'sum', in the pinned program and in every row, IS THE sha256 OF THE DUMP (.gsa) THAT YtnkbkcmphgejkaaProg.lean LOADS. Nothing in Lean hashes anything: it is a label: what it is worth is what the hold of that sum in a sandbox is worth. -/
noncomputable def Try.pinned : Pinned := { name := "ytnkbkcmphgejkaa", sum := "a65237b6133e63517433640808842ab34b427083f3b6b966f3d308ee1398f61f", checked := Try.checked }
namespace Rows
def none {H : Type} : Left H := { results := [], args := [] }

/-- 'suffragelaw07.ContestRules': WHATEVER THE INPUT: true; the input reads as it did. -/
def contestRulesSpec : ChangeSpec := { name := "contestRules", fn := fun _ => fun
  | [d1, d2, d3] => { results := [.lit (.bool true)], args := [d1, d2, d3] }
  | _ => none }
def contestRulesRow : OpenClaim := { program := "ytnkbkcmphgejkaa", sum := "a65237b6133e63517433640808842ab34b427083f3b6b966f3d308ee1398f61f", func := "suffrage/suffragelaw07.ContestRules", spec := "contestRules", apart := false }
def ContestRulesSaid : Prop := contestRulesRow.holds Try.pinned (OpenSpec.ofChange contestRulesSpec)

/-- ITS FALSE NEIGHBOUR: 'it returns false'. Refute it at one input. -/
def contestRulesWrong : ChangeSpec := { name := "contestRules", fn := fun _ => fun
  | [d1, d2, d3] => { results := [.lit (.bool false)], args := [d1, d2, d3] }
  | _ => none }
def ContestRulesWrongFalsely : Prop := contestRulesRow.holds Try.pinned (OpenSpec.ofChange contestRulesWrong)

/-- 'suffragelaw07.ContestTells': WHATEVER THE INPUT: true; the input reads as it did. -/
def contestTellsSpec : ChangeSpec := { name := "contestTells", fn := fun _ => fun
  | [d1, d2, d3] => { results := [.lit (.bool true)], args := [d1, d2, d3] }
  | _ => none }
def contestTellsRow : OpenClaim := { program := "ytnkbkcmphgejkaa", sum := "a65237b6133e63517433640808842ab34b427083f3b6b966f3d308ee1398f61f", func := "suffrage/suffragelaw07.ContestTells", spec := "contestTells", unfollowed := true, recurses := true, apart := false }
def ContestTellsSaid : Prop := contestTellsRow.holds Try.pinned (OpenSpec.ofChange contestTellsSpec)

/-- ITS FALSE NEIGHBOUR: 'it returns false'. Refute it at one input. -/
def contestTellsWrong : ChangeSpec := { name := "contestTells", fn := fun _ => fun
  | [d1, d2, d3] => { results := [.lit (.bool false)], args := [d1, d2, d3] }
  | _ => none }
def ContestTellsWrongFalsely : Prop := contestTellsRow.holds Try.pinned (OpenSpec.ofChange contestTellsWrong)

/-- 'suffragelaw07.ContestWords': WHATEVER THE INPUT: true; the input reads as it did. -/
def contestWordsSpec : ChangeSpec := { name := "contestWords", fn := fun _ => fun
  | [d1, d2, d3, d4] => { results := [.lit (.bool true)], args := [d1, d2, d3, d4] }
  | _ => none }
def contestWordsRow : OpenClaim := { program := "ytnkbkcmphgejkaa", sum := "a65237b6133e63517433640808842ab34b427083f3b6b966f3d308ee1398f61f", func := "suffrage/suffragelaw07.ContestWords", spec := "contestWords", unfollowed := true, recurses := true, apart := false }
def ContestWordsSaid : Prop := contestWordsRow.holds Try.pinned (OpenSpec.ofChange contestWordsSpec)

/-- ITS FALSE NEIGHBOUR: 'it returns false'. Refute it at one input. -/
def contestWordsWrong : ChangeSpec := { name := "contestWords", fn := fun _ => fun
  | [d1, d2, d3, d4] => { results := [.lit (.bool false)], args := [d1, d2, d3, d4] }
  | _ => none }
def ContestWordsWrongFalsely : Prop := contestWordsRow.holds Try.pinned (OpenSpec.ofChange contestWordsWrong)

/-- 'suffragelaw07.ContestSeats': WHATEVER THE INPUT: true; the input reads as it did. -/
def contestSeatsSpec : ChangeSpec := { name := "contestSeats", fn := fun _ => fun
  | [d1, d2] => { results := [.lit (.bool true)], args := [d1, d2] }
  | _ => none }
def contestSeatsRow : OpenClaim := { program := "ytnkbkcmphgejkaa", sum := "a65237b6133e63517433640808842ab34b427083f3b6b966f3d308ee1398f61f", func := "suffrage/suffragelaw07.ContestSeats", spec := "contestSeats", unfollowed := true, recurses := true, apart := false }
def ContestSeatsSaid : Prop := contestSeatsRow.holds Try.pinned (OpenSpec.ofChange contestSeatsSpec)

/-- ITS FALSE NEIGHBOUR: 'it returns false'. Refute it at one input. -/
def contestSeatsWrong : ChangeSpec := { name := "contestSeats", fn := fun _ => fun
  | [d1, d2] => { results := [.lit (.bool false)], args := [d1, d2] }
  | _ => none }
def ContestSeatsWrongFalsely : Prop := contestSeatsRow.holds Try.pinned (OpenSpec.ofChange contestSeatsWrong)

/-- 'suffragelaw07.ContestBytes': WHATEVER THE INPUT: true; the input reads as it did. -/
def contestBytesSpec : ChangeSpec := { name := "contestBytes", fn := fun _ => fun
  | [d1, d2] => { results := [.lit (.bool true)], args := [d1, d2] }
  | _ => none }
def contestBytesRow : OpenClaim := { program := "ytnkbkcmphgejkaa", sum := "a65237b6133e63517433640808842ab34b427083f3b6b966f3d308ee1398f61f", func := "suffrage/suffragelaw07.ContestBytes", spec := "contestBytes", unfollowed := true, recurses := true, apart := false }
def ContestBytesSaid : Prop := contestBytesRow.holds Try.pinned (OpenSpec.ofChange contestBytesSpec)

/-- ITS FALSE NEIGHBOUR: 'it returns false'. Refute it at one input. -/
def contestBytesWrong : ChangeSpec := { name := "contestBytes", fn := fun _ => fun
  | [d1, d2] => { results := [.lit (.bool false)], args := [d1, d2] }
  | _ => none }
def ContestBytesWrongFalsely : Prop := contestBytesRow.holds Try.pinned (OpenSpec.ofChange contestBytesWrong)

/-- 'suffragelaw07.ContestBack': WHATEVER THE INPUT: true; the input reads as it did. -/
def contestBackSpec : ChangeSpec := { name := "contestBack", fn := fun _ => fun
  | [d1, d2] => { results := [.lit (.bool true)], args := [d1, d2] }
  | _ => none }
def contestBackRow : OpenClaim := { program := "ytnkbkcmphgejkaa", sum := "a65237b6133e63517433640808842ab34b427083f3b6b966f3d308ee1398f61f", func := "suffrage/suffragelaw07.ContestBack", spec := "contestBack", unfollowed := true, recurses := true, apart := false }
def ContestBackSaid : Prop := contestBackRow.holds Try.pinned (OpenSpec.ofChange contestBackSpec)

/-- ITS FALSE NEIGHBOUR: 'it returns false'. Refute it at one input. -/
def contestBackWrong : ChangeSpec := { name := "contestBack", fn := fun _ => fun
  | [d1, d2] => { results := [.lit (.bool false)], args := [d1, d2] }
  | _ => none }
def ContestBackWrongFalsely : Prop := contestBackRow.holds Try.pinned (OpenSpec.ofChange contestBackWrong)

/-- 'suffragelaw07.ContestNames': WHATEVER THE INPUT: true; the input reads as it did. -/
def contestNamesSpec : ChangeSpec := { name := "contestNames", fn := fun _ => fun
  | [] => { results := [.lit (.bool true)], args := [] }
  | _ => none }
def contestNamesRow : OpenClaim := { program := "ytnkbkcmphgejkaa", sum := "a65237b6133e63517433640808842ab34b427083f3b6b966f3d308ee1398f61f", func := "suffrage/suffragelaw07.ContestNames", spec := "contestNames", unfollowed := true, recurses := true, apart := false }
def ContestNamesSaid : Prop := contestNamesRow.holds Try.pinned (OpenSpec.ofChange contestNamesSpec)

/-- ITS FALSE NEIGHBOUR: 'it returns false'. Refute it at one input. -/
def contestNamesWrong : ChangeSpec := { name := "contestNames", fn := fun _ => fun
  | [] => { results := [.lit (.bool false)], args := [] }
  | _ => none }
def ContestNamesWrongFalsely : Prop := contestNamesRow.holds Try.pinned (OpenSpec.ofChange contestNamesWrong)

/- THE SECOND FORM. 'bulk': how many values and letters a reading holds, each counted each time it is reached (what is shared counts as often as it is met; a slice's spare places count too). A statement '..UptoSaid' is the law's where the arguments, and the package variables that the reading takes, are together of bulk at most 1048576: NARROWER than '..Said'. Prove '..Said' where nothing that the law and all that it calls make is longer than what came in: it says more and counts as full. Else prove '..UptoSaid'. A law counts once. -/
mutual
def uptoBulk {H : Type} : DataW H → Nat
  | .lit (.string bytes) => bytes.length + 1
  | .lit _ => 1
  | .nil => 1
  | .ptr d => uptoBulk d + 1
  | .slice elems spare => uptoBulkAll elems + uptoBulkAll spare + 1
  | .agg parts => uptoBulkAll parts + 1
  | .iface _ d => uptoBulk d + 1
  | .map entries => uptoBulkEntries entries + 1
  | .held _ => 1
def uptoBulkAll {H : Type} : List (DataW H) → Nat
  | [] => 0
  | d :: r => uptoBulk d + uptoBulkAll r
def uptoBulkEntries {H : Type} : List (Lit × DataW H) → Nat
  | [] => 0
  | x :: r => uptoBulkEntry x + uptoBulkEntries r
def uptoBulkEntry {H : Type} : Lit × DataW H → Nat
  | (.string bytes, d) => bytes.length + uptoBulk d + 1
  | (_, d) => uptoBulk d + 1
 end
def uptoSmall : (H : Type) → List (DataW H) → Bool := fun _ ds => decide (uptoBulkAll ds ≤ 1048576)
def OpenSpec.upto (s : _root_.Go.ChangeSpec) : _root_.Go.OpenSpec := { _root_.Go.OpenSpec.ofChange s with cond := some uptoSmall }

/-- 'suffragelaw07.ContestRules', WHERE WHAT IT READS IS OF BULK AT MOST 1048576: true; the input reads as it did. -/
def contestRulesUptoRow : OpenClaim := { program := "ytnkbkcmphgejkaa", sum := "a65237b6133e63517433640808842ab34b427083f3b6b966f3d308ee1398f61f", func := "suffrage/suffragelaw07.ContestRules", spec := "contestRules", apart := false, narrowed := true }
def ContestRulesUptoSaid : Prop := contestRulesUptoRow.holds Try.pinned (OpenSpec.upto contestRulesSpec)

/-- 'suffragelaw07.ContestTells', WHERE WHAT IT READS IS OF BULK AT MOST 1048576: true; the input reads as it did. -/
def contestTellsUptoRow : OpenClaim := { program := "ytnkbkcmphgejkaa", sum := "a65237b6133e63517433640808842ab34b427083f3b6b966f3d308ee1398f61f", func := "suffrage/suffragelaw07.ContestTells", spec := "contestTells", unfollowed := true, recurses := true, apart := false, narrowed := true }
def ContestTellsUptoSaid : Prop := contestTellsUptoRow.holds Try.pinned (OpenSpec.upto contestTellsSpec)

/-- 'suffragelaw07.ContestWords', WHERE WHAT IT READS IS OF BULK AT MOST 1048576: true; the input reads as it did. -/
def contestWordsUptoRow : OpenClaim := { program := "ytnkbkcmphgejkaa", sum := "a65237b6133e63517433640808842ab34b427083f3b6b966f3d308ee1398f61f", func := "suffrage/suffragelaw07.ContestWords", spec := "contestWords", unfollowed := true, recurses := true, apart := false, narrowed := true }
def ContestWordsUptoSaid : Prop := contestWordsUptoRow.holds Try.pinned (OpenSpec.upto contestWordsSpec)

/-- 'suffragelaw07.ContestSeats', WHERE WHAT IT READS IS OF BULK AT MOST 1048576: true; the input reads as it did. -/
def contestSeatsUptoRow : OpenClaim := { program := "ytnkbkcmphgejkaa", sum := "a65237b6133e63517433640808842ab34b427083f3b6b966f3d308ee1398f61f", func := "suffrage/suffragelaw07.ContestSeats", spec := "contestSeats", unfollowed := true, recurses := true, apart := false, narrowed := true }
def ContestSeatsUptoSaid : Prop := contestSeatsUptoRow.holds Try.pinned (OpenSpec.upto contestSeatsSpec)

/-- 'suffragelaw07.ContestBytes', WHERE WHAT IT READS IS OF BULK AT MOST 1048576: true; the input reads as it did. -/
def contestBytesUptoRow : OpenClaim := { program := "ytnkbkcmphgejkaa", sum := "a65237b6133e63517433640808842ab34b427083f3b6b966f3d308ee1398f61f", func := "suffrage/suffragelaw07.ContestBytes", spec := "contestBytes", unfollowed := true, recurses := true, apart := false, narrowed := true }
def ContestBytesUptoSaid : Prop := contestBytesUptoRow.holds Try.pinned (OpenSpec.upto contestBytesSpec)

/-- 'suffragelaw07.ContestBack', WHERE WHAT IT READS IS OF BULK AT MOST 1048576: true; the input reads as it did. -/
def contestBackUptoRow : OpenClaim := { program := "ytnkbkcmphgejkaa", sum := "a65237b6133e63517433640808842ab34b427083f3b6b966f3d308ee1398f61f", func := "suffrage/suffragelaw07.ContestBack", spec := "contestBack", unfollowed := true, recurses := true, apart := false, narrowed := true }
def ContestBackUptoSaid : Prop := contestBackUptoRow.holds Try.pinned (OpenSpec.upto contestBackSpec)

/-- 'suffragelaw07.ContestNames', WHERE WHAT IT READS IS OF BULK AT MOST 1048576: true; the input reads as it did. -/
def contestNamesUptoRow : OpenClaim := { program := "ytnkbkcmphgejkaa", sum := "a65237b6133e63517433640808842ab34b427083f3b6b966f3d308ee1398f61f", func := "suffrage/suffragelaw07.ContestNames", spec := "contestNames", unfollowed := true, recurses := true, apart := false, narrowed := true }
def ContestNamesUptoSaid : Prop := contestNamesUptoRow.holds Try.pinned (OpenSpec.upto contestNamesSpec)

end Rows
end Go.Proofs.Ytnkbkcmphgejkaa
