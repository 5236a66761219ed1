/-
  No cell of these rows narrows 'for every input' (looked for: loops, veiled, ifaces, maps, wideKeys, modest, calm, conditions, laid).
  DERIVED. THE GIVEN ROWS OF THIS SEAT. 8 by the template 'for every input the law returns true; each argument reads behind the call as it read before'; 0 by the template 'total and deterministic' (their statements: YtnjkfjecnicccaaTotals.lean).
  GIVEN WITH THE SEED: the statements are not yours to turn. If you find one false, say at which input.
  Laid BY PROGRAM, IN A SANDBOX (cutbox-rows.mjs): the forced cells as the released guide's own fill.sh prints them over the translation d67bf8d3df4b2e3e… (all of the seat's roots in one cut). By AI agents, Wed Nov 11 2026. No macro, syntax, notation, axiom, sorry.
-/
import Derived.Test.YtnjkfjecnicccaaChecked
import GoSem.Claim
import GoSem.ClaimJoined
import GoSem.ClaimMapViews
import Derived.JoinedTies
import Derived.KernelRfl
namespace Go.Proofs.Ytnjkfjecnicccaa
/- THE CELL 'sum', in the pinned program and in every row, IS THE sha256 OF THE DUMP (.gsa) THAT YtnjkfjecnicccaaProg.lean LOADS. Nothing in Lean hashes anything: it is a label: what it is worth is what the hold of that sum in a sandbox is worth. -/
noncomputable def Try.pinned : Pinned := { name := "ytnjkfjecnicccaa", sum := "d67bf8d3df4b2e3e602b92493950c5073584e9a2d44c43e09e9b3784b639419f", checked := Try.checked }
namespace Rows
def none {H : Type} : Left H := { results := [], args := [] }

/-- 'suffragelaw24.RollDoes': WHATEVER THE INPUT: true; the input reads as it did. -/
def rollDoesSpec : ChangeSpec := { name := "rollDoes", fn := fun _ => fun
  | [d1, d2] => { results := [.lit (.bool true)], args := [d1, d2] }
  | _ => none }
def rollDoesRow : OpenClaim := { program := "ytnjkfjecnicccaa", sum := "d67bf8d3df4b2e3e602b92493950c5073584e9a2d44c43e09e9b3784b639419f", func := "suffrage/suffragelaw24.RollDoes", spec := "rollDoes", inPlace := ["internal/bytealg.abigen_runtime_cmpstring"], unfollowed := true, recurses := true, apart := false }
def RollDoesSaid : Prop := rollDoesRow.holds Try.pinned (OpenSpec.ofChange rollDoesSpec)

/-- ITS FALSE NEIGHBOUR: 'it returns false'. Refute it at one input. -/
def rollDoesWrong : ChangeSpec := { name := "rollDoes", fn := fun _ => fun
  | [d1, d2] => { results := [.lit (.bool false)], args := [d1, d2] }
  | _ => none }
def RollDoesWrongFalsely : Prop := rollDoesRow.holds Try.pinned (OpenSpec.ofChange rollDoesWrong)

/-- 'suffragelaw24.RollBytes': WHATEVER THE INPUT: true; the input reads as it did. -/
def rollBytesSpec : ChangeSpec := { name := "rollBytes", fn := fun _ => fun
  | [d1, d2] => { results := [.lit (.bool true)], args := [d1, d2] }
  | _ => none }
def rollBytesRow : OpenClaim := { program := "ytnjkfjecnicccaa", sum := "d67bf8d3df4b2e3e602b92493950c5073584e9a2d44c43e09e9b3784b639419f", func := "suffrage/suffragelaw24.RollBytes", spec := "rollBytes", unfollowed := true, recurses := true, apart := false }
def RollBytesSaid : Prop := rollBytesRow.holds Try.pinned (OpenSpec.ofChange rollBytesSpec)

/-- ITS FALSE NEIGHBOUR: 'it returns false'. Refute it at one input. -/
def rollBytesWrong : ChangeSpec := { name := "rollBytes", fn := fun _ => fun
  | [d1, d2] => { results := [.lit (.bool false)], args := [d1, d2] }
  | _ => none }
def RollBytesWrongFalsely : Prop := rollBytesRow.holds Try.pinned (OpenSpec.ofChange rollBytesWrong)

/-- 'suffragelaw24.RollTells': WHATEVER THE INPUT: true; the input reads as it did. -/
def rollTellsSpec : ChangeSpec := { name := "rollTells", fn := fun _ => fun
  | [d1, d2, d3] => { results := [.lit (.bool true)], args := [d1, d2, d3] }
  | _ => none }
def rollTellsRow : OpenClaim := { program := "ytnjkfjecnicccaa", sum := "d67bf8d3df4b2e3e602b92493950c5073584e9a2d44c43e09e9b3784b639419f", func := "suffrage/suffragelaw24.RollTells", spec := "rollTells", inPlace := ["internal/bytealg.abigen_runtime_cmpstring", "slices.overlaps[suffrage/api.Voter]"], unfollowed := true, recurses := true, apart := false }
def RollTellsSaid : Prop := rollTellsRow.holds Try.pinned (OpenSpec.ofChange rollTellsSpec)

/-- ITS FALSE NEIGHBOUR: 'it returns false'. Refute it at one input. -/
def rollTellsWrong : ChangeSpec := { name := "rollTells", fn := fun _ => fun
  | [d1, d2, d3] => { results := [.lit (.bool false)], args := [d1, d2, d3] }
  | _ => none }
def RollTellsWrongFalsely : Prop := rollTellsRow.holds Try.pinned (OpenSpec.ofChange rollTellsWrong)

/-- 'suffragelaw24.RollOnce': WHATEVER THE INPUT: true; the input reads as it did. -/
def rollOnceSpec : ChangeSpec := { name := "rollOnce", fn := fun _ => fun
  | [d1, d2, d3] => { results := [.lit (.bool true)], args := [d1, d2, d3] }
  | _ => none }
def rollOnceRow : OpenClaim := { program := "ytnjkfjecnicccaa", sum := "d67bf8d3df4b2e3e602b92493950c5073584e9a2d44c43e09e9b3784b639419f", func := "suffrage/suffragelaw24.RollOnce", spec := "rollOnce", inPlace := ["internal/bytealg.abigen_runtime_cmpstring", "slices.overlaps[suffrage/api.Voter]"], unfollowed := true, recurses := true, apart := false }
def RollOnceSaid : Prop := rollOnceRow.holds Try.pinned (OpenSpec.ofChange rollOnceSpec)

/-- ITS FALSE NEIGHBOUR: 'it returns false'. Refute it at one input. -/
def rollOnceWrong : ChangeSpec := { name := "rollOnce", fn := fun _ => fun
  | [d1, d2, d3] => { results := [.lit (.bool false)], args := [d1, d2, d3] }
  | _ => none }
def RollOnceWrongFalsely : Prop := rollOnceRow.holds Try.pinned (OpenSpec.ofChange rollOnceWrong)

/-- 'suffragelaw24.RollOthers': WHATEVER THE INPUT: true; the input reads as it did. -/
def rollOthersSpec : ChangeSpec := { name := "rollOthers", fn := fun _ => fun
  | [d1, d2, d3, d4] => { results := [.lit (.bool true)], args := [d1, d2, d3, d4] }
  | _ => none }
def rollOthersRow : OpenClaim := { program := "ytnjkfjecnicccaa", sum := "d67bf8d3df4b2e3e602b92493950c5073584e9a2d44c43e09e9b3784b639419f", func := "suffrage/suffragelaw24.RollOthers", spec := "rollOthers", inPlace := ["internal/bytealg.abigen_runtime_cmpstring", "slices.overlaps[suffrage/api.Voter]"], unfollowed := true, recurses := true, apart := false }
def RollOthersSaid : Prop := rollOthersRow.holds Try.pinned (OpenSpec.ofChange rollOthersSpec)

/-- ITS FALSE NEIGHBOUR: 'it returns false'. Refute it at one input. -/
def rollOthersWrong : ChangeSpec := { name := "rollOthers", fn := fun _ => fun
  | [d1, d2, d3, d4] => { results := [.lit (.bool false)], args := [d1, d2, d3, d4] }
  | _ => none }
def RollOthersWrongFalsely : Prop := rollOthersRow.holds Try.pinned (OpenSpec.ofChange rollOthersWrong)

/-- 'suffragelaw24.RollCounts': WHATEVER THE INPUT: true; the input reads as it did. -/
def rollCountsSpec : ChangeSpec := { name := "rollCounts", fn := fun _ => fun
  | [d1, d2, d3] => { results := [.lit (.bool true)], args := [d1, d2, d3] }
  | _ => none }
def rollCountsRow : OpenClaim := { program := "ytnjkfjecnicccaa", sum := "d67bf8d3df4b2e3e602b92493950c5073584e9a2d44c43e09e9b3784b639419f", func := "suffrage/suffragelaw24.RollCounts", spec := "rollCounts", inPlace := ["internal/bytealg.abigen_runtime_cmpstring", "slices.overlaps[suffrage/api.Voter]"], unfollowed := true, recurses := true, apart := false }
def RollCountsSaid : Prop := rollCountsRow.holds Try.pinned (OpenSpec.ofChange rollCountsSpec)

/-- ITS FALSE NEIGHBOUR: 'it returns false'. Refute it at one input. -/
def rollCountsWrong : ChangeSpec := { name := "rollCounts", fn := fun _ => fun
  | [d1, d2, d3] => { results := [.lit (.bool false)], args := [d1, d2, d3] }
  | _ => none }
def RollCountsWrongFalsely : Prop := rollCountsRow.holds Try.pinned (OpenSpec.ofChange rollCountsWrong)

/-- 'suffragelaw24.RollNames': WHATEVER THE INPUT: true; the input reads as it did. -/
def rollNamesSpec : ChangeSpec := { name := "rollNames", fn := fun _ => fun
  | [] => { results := [.lit (.bool true)], args := [] }
  | _ => none }
def rollNamesRow : OpenClaim := { program := "ytnjkfjecnicccaa", sum := "d67bf8d3df4b2e3e602b92493950c5073584e9a2d44c43e09e9b3784b639419f", func := "suffrage/suffragelaw24.RollNames", spec := "rollNames", inPlace := ["internal/bytealg.abigen_runtime_cmpstring", "slices.overlaps[suffrage/api.Voter]"], unfollowed := true, recurses := true, apart := false }
def RollNamesSaid : Prop := rollNamesRow.holds Try.pinned (OpenSpec.ofChange rollNamesSpec)

/-- ITS FALSE NEIGHBOUR: 'it returns false'. Refute it at one input. -/
def rollNamesWrong : ChangeSpec := { name := "rollNames", fn := fun _ => fun
  | [] => { results := [.lit (.bool false)], args := [] }
  | _ => none }
def RollNamesWrongFalsely : Prop := rollNamesRow.holds Try.pinned (OpenSpec.ofChange rollNamesWrong)

/-- 'suffragelaw24.RollBack': WHATEVER THE INPUT: true; the input reads as it did. -/
def rollBackSpec : ChangeSpec := { name := "rollBack", fn := fun _ => fun
  | [d1, d2] => { results := [.lit (.bool true)], args := [d1, d2] }
  | _ => none }
def rollBackRow : OpenClaim := { program := "ytnjkfjecnicccaa", sum := "d67bf8d3df4b2e3e602b92493950c5073584e9a2d44c43e09e9b3784b639419f", func := "suffrage/suffragelaw24.RollBack", spec := "rollBack", inPlace := ["internal/bytealg.abigen_runtime_cmpstring", "slices.overlaps[suffrage/api.Voter]"], unfollowed := true, recurses := true, apart := false }
def RollBackSaid : Prop := rollBackRow.holds Try.pinned (OpenSpec.ofChange rollBackSpec)

/-- ITS FALSE NEIGHBOUR: 'it returns false'. Refute it at one input. -/
def rollBackWrong : ChangeSpec := { name := "rollBack", fn := fun _ => fun
  | [d1, d2] => { results := [.lit (.bool false)], args := [d1, d2] }
  | _ => none }
def RollBackWrongFalsely : Prop := rollBackRow.holds Try.pinned (OpenSpec.ofChange rollBackWrong)

/- THE SECOND FORM. 'bulk': how many values and letters a reading holds, each counted each time it is reached (what is shared counts as often as it is met; a slice's spare places count too). A statement '..UptoSaid' is the law's where the arguments, and the package variables that the reading takes, are together of bulk at most 1048576: NARROWER than '..Said'. Prove '..Said' where nothing that the law and all that it calls make is longer than what came in: it says more and counts as full. Else prove '..UptoSaid'. A law counts once. -/
mutual
def uptoBulk {H : Type} : DataW H → Nat
  | .lit (.string bytes) => bytes.length + 1
  | .lit _ => 1
  | .nil => 1
  | .ptr d => uptoBulk d + 1
  | .slice elems spare => uptoBulkAll elems + uptoBulkAll spare + 1
  | .agg parts => uptoBulkAll parts + 1
  | .iface _ d => uptoBulk d + 1
  | .map entries => uptoBulkEntries entries + 1
  | .held _ => 1
def uptoBulkAll {H : Type} : List (DataW H) → Nat
  | [] => 0
  | d :: r => uptoBulk d + uptoBulkAll r
def uptoBulkEntries {H : Type} : List (Lit × DataW H) → Nat
  | [] => 0
  | x :: r => uptoBulkEntry x + uptoBulkEntries r
def uptoBulkEntry {H : Type} : Lit × DataW H → Nat
  | (.string bytes, d) => bytes.length + uptoBulk d + 1
  | (_, d) => uptoBulk d + 1
 end
def uptoSmall : (H : Type) → List (DataW H) → Bool := fun _ ds => decide (uptoBulkAll ds ≤ 1048576)
def OpenSpec.upto (s : _root_.Go.ChangeSpec) : _root_.Go.OpenSpec := { _root_.Go.OpenSpec.ofChange s with cond := some uptoSmall }

/-- 'suffragelaw24.RollDoes', WHERE WHAT IT READS IS OF BULK AT MOST 1048576: true; the input reads as it did. -/
def rollDoesUptoRow : OpenClaim := { program := "ytnjkfjecnicccaa", sum := "d67bf8d3df4b2e3e602b92493950c5073584e9a2d44c43e09e9b3784b639419f", func := "suffrage/suffragelaw24.RollDoes", spec := "rollDoes", inPlace := ["internal/bytealg.abigen_runtime_cmpstring"], unfollowed := true, recurses := true, apart := false, narrowed := true }
def RollDoesUptoSaid : Prop := rollDoesUptoRow.holds Try.pinned (OpenSpec.upto rollDoesSpec)

/-- 'suffragelaw24.RollBytes', WHERE WHAT IT READS IS OF BULK AT MOST 1048576: true; the input reads as it did. -/
def rollBytesUptoRow : OpenClaim := { program := "ytnjkfjecnicccaa", sum := "d67bf8d3df4b2e3e602b92493950c5073584e9a2d44c43e09e9b3784b639419f", func := "suffrage/suffragelaw24.RollBytes", spec := "rollBytes", unfollowed := true, recurses := true, apart := false, narrowed := true }
def RollBytesUptoSaid : Prop := rollBytesUptoRow.holds Try.pinned (OpenSpec.upto rollBytesSpec)

/-- 'suffragelaw24.RollTells', WHERE WHAT IT READS IS OF BULK AT MOST 1048576: true; the input reads as it did. -/
def rollTellsUptoRow : OpenClaim := { program := "ytnjkfjecnicccaa", sum := "d67bf8d3df4b2e3e602b92493950c5073584e9a2d44c43e09e9b3784b639419f", func := "suffrage/suffragelaw24.RollTells", spec := "rollTells", inPlace := ["internal/bytealg.abigen_runtime_cmpstring", "slices.overlaps[suffrage/api.Voter]"], unfollowed := true, recurses := true, apart := false, narrowed := true }
def RollTellsUptoSaid : Prop := rollTellsUptoRow.holds Try.pinned (OpenSpec.upto rollTellsSpec)

/-- 'suffragelaw24.RollOnce', WHERE WHAT IT READS IS OF BULK AT MOST 1048576: true; the input reads as it did. -/
def rollOnceUptoRow : OpenClaim := { program := "ytnjkfjecnicccaa", sum := "d67bf8d3df4b2e3e602b92493950c5073584e9a2d44c43e09e9b3784b639419f", func := "suffrage/suffragelaw24.RollOnce", spec := "rollOnce", inPlace := ["internal/bytealg.abigen_runtime_cmpstring", "slices.overlaps[suffrage/api.Voter]"], unfollowed := true, recurses := true, apart := false, narrowed := true }
def RollOnceUptoSaid : Prop := rollOnceUptoRow.holds Try.pinned (OpenSpec.upto rollOnceSpec)

/-- 'suffragelaw24.RollOthers', WHERE WHAT IT READS IS OF BULK AT MOST 1048576: true; the input reads as it did. -/
def rollOthersUptoRow : OpenClaim := { program := "ytnjkfjecnicccaa", sum := "d67bf8d3df4b2e3e602b92493950c5073584e9a2d44c43e09e9b3784b639419f", func := "suffrage/suffragelaw24.RollOthers", spec := "rollOthers", inPlace := ["internal/bytealg.abigen_runtime_cmpstring", "slices.overlaps[suffrage/api.Voter]"], unfollowed := true, recurses := true, apart := false, narrowed := true }
def RollOthersUptoSaid : Prop := rollOthersUptoRow.holds Try.pinned (OpenSpec.upto rollOthersSpec)

/-- 'suffragelaw24.RollCounts', WHERE WHAT IT READS IS OF BULK AT MOST 1048576: true; the input reads as it did. -/
def rollCountsUptoRow : OpenClaim := { program := "ytnjkfjecnicccaa", sum := "d67bf8d3df4b2e3e602b92493950c5073584e9a2d44c43e09e9b3784b639419f", func := "suffrage/suffragelaw24.RollCounts", spec := "rollCounts", inPlace := ["internal/bytealg.abigen_runtime_cmpstring", "slices.overlaps[suffrage/api.Voter]"], unfollowed := true, recurses := true, apart := false, narrowed := true }
def RollCountsUptoSaid : Prop := rollCountsUptoRow.holds Try.pinned (OpenSpec.upto rollCountsSpec)

/-- 'suffragelaw24.RollNames', WHERE WHAT IT READS IS OF BULK AT MOST 1048576: true; the input reads as it did. -/
def rollNamesUptoRow : OpenClaim := { program := "ytnjkfjecnicccaa", sum := "d67bf8d3df4b2e3e602b92493950c5073584e9a2d44c43e09e9b3784b639419f", func := "suffrage/suffragelaw24.RollNames", spec := "rollNames", inPlace := ["internal/bytealg.abigen_runtime_cmpstring", "slices.overlaps[suffrage/api.Voter]"], unfollowed := true, recurses := true, apart := false, narrowed := true }
def RollNamesUptoSaid : Prop := rollNamesUptoRow.holds Try.pinned (OpenSpec.upto rollNamesSpec)

/-- 'suffragelaw24.RollBack', WHERE WHAT IT READS IS OF BULK AT MOST 1048576: true; the input reads as it did. -/
def rollBackUptoRow : OpenClaim := { program := "ytnjkfjecnicccaa", sum := "d67bf8d3df4b2e3e602b92493950c5073584e9a2d44c43e09e9b3784b639419f", func := "suffrage/suffragelaw24.RollBack", spec := "rollBack", inPlace := ["internal/bytealg.abigen_runtime_cmpstring", "slices.overlaps[suffrage/api.Voter]"], unfollowed := true, recurses := true, apart := false, narrowed := true }
def RollBackUptoSaid : Prop := rollBackUptoRow.holds Try.pinned (OpenSpec.upto rollBackSpec)

end Rows
end Go.Proofs.Ytnjkfjecnicccaa
