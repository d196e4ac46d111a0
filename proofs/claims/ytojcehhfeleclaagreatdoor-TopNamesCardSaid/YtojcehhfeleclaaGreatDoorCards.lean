/-
  DERIVED. GIVEN WITH THE SEED: THE CARDS: each row of YtojcehhfeleclaaGreatDoorRows.lean that lists a variable, with what it lists TIED to the program's text (the seventh form; the later family's looks); each row that meets fmt, with fmt's text TOLD by the authors' own Lean function (tested against real Go, not proved from fmt's source: count such statements apart). THE CARD IS WHAT COUNTS. Prove the row's statement (the work); the ties are given (YtojcehhfeleclaaGreatDoorTie.lean); close each card by the builder's one call (the guide's Derived/Test/ToyasCard.lean, 'card_holds'). Laid BY PROGRAM, IN A SANDBOX (cutbox-door.mjs). By AI agents, Wed Nov 11 2026. No macro, syntax, notation, axiom, sorry.
-/
import Derived.Test.YtojcehhfeleclaaGreatDoorRows
import GoSem.ClaimSeven
namespace Go.Proofs.YtojcehhfeleclaaGreatDoor
namespace Rows

/-- THE TIED CARD OF 'bypathtop.WholeMoves'. -/
def wholeMovesCard : Claim7 := { stood := { row := wholeMovesRow, standIns := [], harness := (true, "11cb064b05bdb2eedd0cb161efb08788b08ef640f22c278650c8563ea9dcde09"), looks := true }, kinds := [], alts := [], laidByText := true, laidKinds := [.data, .data, .data, .data, .pinned, .data, .sentinel, .sentinel, .data], laidTests := true, laidLooks := .later }
def WholeMovesCardSaid : Prop := Claim7.holds Tryz.pinned (.plain (OpenSpec.ofChange wholeMovesSpec)) wholeMovesCard

/-- THE TIED CARD OF 'bypathtop.TopNames'. -/
def topNamesCard : Claim7 := { stood := { row := topNamesRow, standIns := [], harness := (true, "11cb064b05bdb2eedd0cb161efb08788b08ef640f22c278650c8563ea9dcde09"), looks := true }, kinds := [], alts := [], laidByText := true, laidKinds := [.data, .data, .data, .data, .pinned, .data, .sentinel, .sentinel, .data], laidTests := true, laidLooks := .later }
def TopNamesCardSaid : Prop := Claim7.holds Tryz.pinned (.plain (OpenSpec.ofChange topNamesSpec)) topNamesCard

/-- THE SECOND FORM's CARD OF 'bypathtop.WholeMoves'. -/
def wholeMovesUptoCard : Claim7 := { stood := { row := wholeMovesUptoRow, standIns := [], harness := (true, "11cb064b05bdb2eedd0cb161efb08788b08ef640f22c278650c8563ea9dcde09"), looks := true }, kinds := [], alts := [], laidByText := true, laidKinds := [.data, .data, .data, .data, .pinned, .data, .sentinel, .sentinel, .data], laidTests := true, laidLooks := .later }
def WholeMovesUptoCardSaid : Prop := Claim7.holds Tryz.pinned (.plain (OpenSpec.upto wholeMovesSpec)) wholeMovesUptoCard

/-- THE SECOND FORM's CARD OF 'bypathtop.TopNames'. -/
def topNamesUptoCard : Claim7 := { stood := { row := topNamesUptoRow, standIns := [], harness := (true, "11cb064b05bdb2eedd0cb161efb08788b08ef640f22c278650c8563ea9dcde09"), looks := true }, kinds := [], alts := [], laidByText := true, laidKinds := [.data, .data, .data, .data, .pinned, .data, .sentinel, .sentinel, .data], laidTests := true, laidLooks := .later }
def TopNamesUptoCardSaid : Prop := Claim7.holds Tryz.pinned (.plain (OpenSpec.upto topNamesSpec)) topNamesUptoCard
end Rows
end Go.Proofs.YtojcehhfeleclaaGreatDoor
