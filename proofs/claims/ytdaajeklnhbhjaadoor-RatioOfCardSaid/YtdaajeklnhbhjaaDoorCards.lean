/-
  DERIVED. GIVEN WITH THE SEED: THE CARDS: each row of YtdaajeklnhbhjaaDoorRows.lean that lists a variable, with what it lists TIED to the program's text (the seventh form; the later family's looks); each row that meets fmt, with fmt's text TOLD by the authors' own Lean function (tested against real Go, not proved from fmt's source: count such statements apart). THE CARD IS WHAT COUNTS. Prove the row's statement (the work); the ties are given (YtdaajeklnhbhjaaDoorTie.lean); close each card by the builder's one call (the guide's Derived/Test/ToyasCard.lean, 'card_holds'). Laid BY PROGRAM, IN A SANDBOX (cutbox-door.mjs). By AI agents, Wed Nov 11 2026. No macro, syntax, notation, axiom, sorry.
-/
import Derived.Test.YtdaajeklnhbhjaaDoorRows
import GoSem.ClaimSeven
namespace Go.Proofs.YtdaajeklnhbhjaaDoor
namespace Rows

/-- THE TIED CARD OF 'suffragelaw04.RatioOf'. -/
def ratioOfCard : Claim7 := { stood := { row := ratioOfRow, standIns := [], harness := (true, "fccccd8633e813a06a62f9f751645efbb2cb8eecef0e8dc542a1c262576deb75"), looks := false }, kinds := [], alts := [], laidByText := true, laidKinds := [.data, .pinned], laidTests := true, laidLooks := .later }
def RatioOfCardSaid : Prop := Claim7.holds Tryd.pinned (.plain (OpenSpec.ofChange ratioOfSpec)) ratioOfCard

/-- THE SECOND FORM's CARD OF 'suffragelaw04.RatioOf'. -/
def ratioOfUptoCard : Claim7 := { stood := { row := ratioOfUptoRow, standIns := [], harness := (true, "fccccd8633e813a06a62f9f751645efbb2cb8eecef0e8dc542a1c262576deb75"), looks := false }, kinds := [], alts := [], laidByText := true, laidKinds := [.data, .pinned], laidTests := true, laidLooks := .later }
def RatioOfUptoCardSaid : Prop := Claim7.holds Tryd.pinned (.plain (OpenSpec.upto ratioOfSpec)) ratioOfUptoCard
end Rows
end Go.Proofs.YtdaajeklnhbhjaaDoor
