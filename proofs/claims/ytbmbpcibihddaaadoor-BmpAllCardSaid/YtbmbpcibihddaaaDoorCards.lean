/-
  DERIVED. GIVEN WITH THE SEED: THE CARDS: each row of YtbmbpcibihddaaaDoorRows.lean that lists a variable, with what it lists TIED to the program's text (the seventh form; the later family's looks); each row that meets fmt, with fmt's text TOLD by the authors' own Lean function (tested against real Go, not proved from fmt's source: count such statements apart). THE CARD IS WHAT COUNTS. Prove the row's statement (the work); the ties are given (YtbmbpcibihddaaaDoorTie.lean); close each card by the builder's one call (the guide's Derived/Test/ToyasCard.lean, 'card_holds'). Laid BY PROGRAM, IN A SANDBOX (cutbox-door.mjs). By AI agents, Wed Nov 11 2026. No macro, syntax, notation, axiom, sorry.
-/
import Derived.Test.YtbmbpcibihddaaaDoorRows
import GoSem.ClaimSeven
namespace Go.Proofs.YtbmbpcibihddaaaDoor
namespace Rows

/-- THE TIED CARD OF 'bypathlaw04.OpenPuts'. -/
def openPutsCard : Claim7 := { stood := { row := openPutsRow, standIns := [], harness := (true, "218adec39979767a2a079cfe7b17f94a612684b8c32823781d88ae07330bf18f"), looks := false }, kinds := [], alts := [], laidByText := true, laidKinds := [.data], laidTests := true, laidLooks := .later }
def OpenPutsCardSaid : Prop := Claim7.holds Tryd.pinned (.plain (OpenSpec.ofChange openPutsSpec)) openPutsCard

/-- THE TIED CARD OF 'bypathlaw36.BmpPuts'. -/
def bmpPutsCard : Claim7 := { stood := { row := bmpPutsRow, standIns := [], harness := (true, "218adec39979767a2a079cfe7b17f94a612684b8c32823781d88ae07330bf18f"), looks := false }, kinds := [], alts := [], laidByText := true, laidKinds := [.data], laidTests := true, laidLooks := .later }
def BmpPutsCardSaid : Prop := Claim7.holds Tryd.pinned (.plain (OpenSpec.ofChange bmpPutsSpec)) bmpPutsCard

/-- THE TIED CARD OF 'bypathlaw36.BmpGets'. -/
def bmpGetsCard : Claim7 := { stood := { row := bmpGetsRow, standIns := [], harness := (true, "218adec39979767a2a079cfe7b17f94a612684b8c32823781d88ae07330bf18f"), looks := false }, kinds := [], alts := [], laidByText := true, laidKinds := [.data], laidTests := true, laidLooks := .later }
def BmpGetsCardSaid : Prop := Claim7.holds Tryd.pinned (.plain (OpenSpec.ofChange bmpGetsSpec)) bmpGetsCard

/-- THE TIED CARD OF 'bypathlaw36.BmpAll'. -/
def bmpAllCard : Claim7 := { stood := { row := bmpAllRow, standIns := [], harness := (true, "218adec39979767a2a079cfe7b17f94a612684b8c32823781d88ae07330bf18f"), looks := false }, kinds := [], alts := [], laidByText := true, laidKinds := [.data], laidTests := true, laidLooks := .later }
def BmpAllCardSaid : Prop := Claim7.holds Tryd.pinned (.plain (OpenSpec.ofChange bmpAllSpec)) bmpAllCard

/-- THE SECOND FORM's CARD OF 'bypathlaw04.OpenPuts'. -/
def openPutsUptoCard : Claim7 := { stood := { row := openPutsUptoRow, standIns := [], harness := (true, "218adec39979767a2a079cfe7b17f94a612684b8c32823781d88ae07330bf18f"), looks := false }, kinds := [], alts := [], laidByText := true, laidKinds := [.data], laidTests := true, laidLooks := .later }
def OpenPutsUptoCardSaid : Prop := Claim7.holds Tryd.pinned (.plain (OpenSpec.upto openPutsSpec)) openPutsUptoCard

/-- THE SECOND FORM's CARD OF 'bypathlaw36.BmpPuts'. -/
def bmpPutsUptoCard : Claim7 := { stood := { row := bmpPutsUptoRow, standIns := [], harness := (true, "218adec39979767a2a079cfe7b17f94a612684b8c32823781d88ae07330bf18f"), looks := false }, kinds := [], alts := [], laidByText := true, laidKinds := [.data], laidTests := true, laidLooks := .later }
def BmpPutsUptoCardSaid : Prop := Claim7.holds Tryd.pinned (.plain (OpenSpec.upto bmpPutsSpec)) bmpPutsUptoCard

/-- THE SECOND FORM's CARD OF 'bypathlaw36.BmpGets'. -/
def bmpGetsUptoCard : Claim7 := { stood := { row := bmpGetsUptoRow, standIns := [], harness := (true, "218adec39979767a2a079cfe7b17f94a612684b8c32823781d88ae07330bf18f"), looks := false }, kinds := [], alts := [], laidByText := true, laidKinds := [.data], laidTests := true, laidLooks := .later }
def BmpGetsUptoCardSaid : Prop := Claim7.holds Tryd.pinned (.plain (OpenSpec.upto bmpGetsSpec)) bmpGetsUptoCard

/-- THE SECOND FORM's CARD OF 'bypathlaw36.BmpAll'. -/
def bmpAllUptoCard : Claim7 := { stood := { row := bmpAllUptoRow, standIns := [], harness := (true, "218adec39979767a2a079cfe7b17f94a612684b8c32823781d88ae07330bf18f"), looks := false }, kinds := [], alts := [], laidByText := true, laidKinds := [.data], laidTests := true, laidLooks := .later }
def BmpAllUptoCardSaid : Prop := Claim7.holds Tryd.pinned (.plain (OpenSpec.upto bmpAllSpec)) bmpAllUptoCard
end Rows
end Go.Proofs.YtbmbpcibihddaaaDoor
