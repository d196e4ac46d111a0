/-
  DERIVED. GIVEN WITH THE SEED: THE CARDS: each row of YteokhnkipandbaaDoorRows.lean that lists a variable, with what it lists TIED to the program's text (the seventh form; the later family's looks); each row that meets fmt, with fmt's text TOLD by the authors' own Lean function (tested against real Go, not proved from fmt's source: count such statements apart). THE CARD IS WHAT COUNTS. Prove the row's statement (the work); the ties are given (YteokhnkipandbaaDoorTie.lean); close each card by the builder's one call (the guide's Derived/Test/ToyasCard.lean, 'card_holds'). Laid BY PROGRAM, IN A SANDBOX (cutbox-door.mjs). By AI agents, Wed Nov 11 2026. No macro, syntax, notation, axiom, sorry.
-/
import Derived.Test.YteokhnkipandbaaDoorRows
import GoSem.ClaimSeven
namespace Go.Proofs.YteokhnkipandbaaDoor
namespace Rows

/-- THE TIED CARD OF 'bypathlaw37.FlowMosts'. -/
def flowMostsCard : Claim7 := { stood := { row := flowMostsRow, standIns := [], harness := (true, "b9d9694cdb4f7c7e5b73132da9ecfd6ea079d83f6933a517943c62e5ebf731f5"), looks := false }, kinds := [], alts := [], laidByText := true, laidKinds := [.data, .data], laidTests := true, laidLooks := .later }
def FlowMostsCardSaid : Prop := Claim7.holds Tryd.pinned (.plain (OpenSpec.ofChange flowMostsSpec)) flowMostsCard

/-- THE TIED CARD OF 'bypathlaw37.FlowCuts'. -/
def flowCutsCard : Claim7 := { stood := { row := flowCutsRow, standIns := [], harness := (true, "b9d9694cdb4f7c7e5b73132da9ecfd6ea079d83f6933a517943c62e5ebf731f5"), looks := false }, kinds := [], alts := [], laidByText := true, laidKinds := [.data, .data], laidTests := true, laidLooks := .later }
def FlowCutsCardSaid : Prop := Claim7.holds Tryd.pinned (.plain (OpenSpec.ofChange flowCutsSpec)) flowCutsCard

/-- THE TIED CARD OF 'bypathlaw37.FlowRises'. -/
def flowRisesCard : Claim7 := { stood := { row := flowRisesRow, standIns := [], harness := (true, "b9d9694cdb4f7c7e5b73132da9ecfd6ea079d83f6933a517943c62e5ebf731f5"), looks := false }, kinds := [], alts := [], laidByText := true, laidKinds := [.data, .data], laidTests := true, laidLooks := .later }
def FlowRisesCardSaid : Prop := Claim7.holds Tryd.pinned (.plain (OpenSpec.ofChange flowRisesSpec)) flowRisesCard

/-- THE TIED CARD OF 'bypathlaw03.FramePuts'. -/
def framePutsCard : Claim7 := { stood := { row := framePutsRow, standIns := [], harness := (true, "b9d9694cdb4f7c7e5b73132da9ecfd6ea079d83f6933a517943c62e5ebf731f5"), looks := false }, kinds := [], alts := [], laidByText := true, laidKinds := [.data], laidTests := true, laidLooks := .later }
def FramePutsCardSaid : Prop := Claim7.holds Tryd.pinned (.plain (OpenSpec.ofChange framePutsSpec)) framePutsCard

/-- THE TIED CARD OF 'bypathlaw03.FrameHeads'. -/
def frameHeadsCard : Claim7 := { stood := { row := frameHeadsRow, standIns := [], harness := (true, "b9d9694cdb4f7c7e5b73132da9ecfd6ea079d83f6933a517943c62e5ebf731f5"), looks := false }, kinds := [], alts := [], laidByText := true, laidKinds := [.data], laidTests := true, laidLooks := .later }
def FrameHeadsCardSaid : Prop := Claim7.holds Tryd.pinned (.plain (OpenSpec.ofChange frameHeadsSpec)) frameHeadsCard

/-- THE TIED CARD OF 'bypathlaw03.FrameBack'. -/
def frameBackCard : Claim7 := { stood := { row := frameBackRow, standIns := [], harness := (true, "b9d9694cdb4f7c7e5b73132da9ecfd6ea079d83f6933a517943c62e5ebf731f5"), looks := false }, kinds := [], alts := [], laidByText := true, laidKinds := [.data], laidTests := true, laidLooks := .later }
def FrameBackCardSaid : Prop := Claim7.holds Tryd.pinned (.plain (OpenSpec.ofChange frameBackSpec)) frameBackCard

/-- THE TIED CARD OF 'bypathlaw03.FrameFull'. -/
def frameFullCard : Claim7 := { stood := { row := frameFullRow, standIns := [], harness := (true, "b9d9694cdb4f7c7e5b73132da9ecfd6ea079d83f6933a517943c62e5ebf731f5"), looks := false }, kinds := [], alts := [], laidByText := true, laidKinds := [.data], laidTests := true, laidLooks := .later }
def FrameFullCardSaid : Prop := Claim7.holds Tryd.pinned (.plain (OpenSpec.ofChange frameFullSpec)) frameFullCard

/-- THE TIED CARD OF 'bypathlaw03.FrameTells'. -/
def frameTellsCard : Claim7 := { stood := { row := frameTellsRow, standIns := [], harness := (true, "b9d9694cdb4f7c7e5b73132da9ecfd6ea079d83f6933a517943c62e5ebf731f5"), looks := false }, kinds := [], alts := [], laidByText := true, laidKinds := [.data], laidTests := true, laidLooks := .later }
def FrameTellsCardSaid : Prop := Claim7.holds Tryd.pinned (.plain (OpenSpec.ofChange frameTellsSpec)) frameTellsCard

/-- THE TIED CARD OF 'bypathlaw04.OpenPuts'. -/
def openPutsCard : Claim7 := { stood := { row := openPutsRow, standIns := [], harness := (true, "b9d9694cdb4f7c7e5b73132da9ecfd6ea079d83f6933a517943c62e5ebf731f5"), looks := false }, kinds := [], alts := [], laidByText := true, laidKinds := [.data], laidTests := true, laidLooks := .later }
def OpenPutsCardSaid : Prop := Claim7.holds Tryd.pinned (.plain (OpenSpec.ofChange openPutsSpec)) openPutsCard

/-- THE TIED CARD OF 'bypathlaw36.BmpPuts'. -/
def bmpPutsCard : Claim7 := { stood := { row := bmpPutsRow, standIns := [], harness := (true, "b9d9694cdb4f7c7e5b73132da9ecfd6ea079d83f6933a517943c62e5ebf731f5"), looks := false }, kinds := [], alts := [], laidByText := true, laidKinds := [.data], laidTests := true, laidLooks := .later }
def BmpPutsCardSaid : Prop := Claim7.holds Tryd.pinned (.plain (OpenSpec.ofChange bmpPutsSpec)) bmpPutsCard

/-- THE TIED CARD OF 'bypathlaw36.BmpGets'. -/
def bmpGetsCard : Claim7 := { stood := { row := bmpGetsRow, standIns := [], harness := (true, "b9d9694cdb4f7c7e5b73132da9ecfd6ea079d83f6933a517943c62e5ebf731f5"), looks := false }, kinds := [], alts := [], laidByText := true, laidKinds := [.data], laidTests := true, laidLooks := .later }
def BmpGetsCardSaid : Prop := Claim7.holds Tryd.pinned (.plain (OpenSpec.ofChange bmpGetsSpec)) bmpGetsCard

/-- THE TIED CARD OF 'bypathlaw36.BmpAll'. -/
def bmpAllCard : Claim7 := { stood := { row := bmpAllRow, standIns := [], harness := (true, "b9d9694cdb4f7c7e5b73132da9ecfd6ea079d83f6933a517943c62e5ebf731f5"), looks := false }, kinds := [], alts := [], laidByText := true, laidKinds := [.data], laidTests := true, laidLooks := .later }
def BmpAllCardSaid : Prop := Claim7.holds Tryd.pinned (.plain (OpenSpec.ofChange bmpAllSpec)) bmpAllCard

/-- THE TIED CARD OF 'bypathlaw08.NoteGets'. -/
def noteGetsCard : Claim7 := { stood := { row := noteGetsRow, standIns := [], harness := (true, "b9d9694cdb4f7c7e5b73132da9ecfd6ea079d83f6933a517943c62e5ebf731f5"), looks := false }, kinds := [], alts := [], laidByText := true, laidKinds := [.data, .data, .data, .data], laidTests := true, laidLooks := .later }
def NoteGetsCardSaid : Prop := Claim7.holds Tryd.pinned (.plain (OpenSpec.ofChange noteGetsSpec)) noteGetsCard

/-- THE TIED CARD OF 'bypathlaw08.NoteSames'. -/
def noteSamesCard : Claim7 := { stood := { row := noteSamesRow, standIns := [], harness := (true, "b9d9694cdb4f7c7e5b73132da9ecfd6ea079d83f6933a517943c62e5ebf731f5"), looks := false }, kinds := [], alts := [], laidByText := true, laidKinds := [.data, .data, .data, .data], laidTests := true, laidLooks := .later }
def NoteSamesCardSaid : Prop := Claim7.holds Tryd.pinned (.plain (OpenSpec.ofChange noteSamesSpec)) noteSamesCard

/-- THE TIED CARD OF 'bypathlaw08.NotePuts'. -/
def notePutsCard : Claim7 := { stood := { row := notePutsRow, standIns := [], harness := (true, "b9d9694cdb4f7c7e5b73132da9ecfd6ea079d83f6933a517943c62e5ebf731f5"), looks := false }, kinds := [], alts := [], laidByText := true, laidKinds := [.data, .data, .data, .data, .data], laidTests := true, laidLooks := .later }
def NotePutsCardSaid : Prop := Claim7.holds Tryd.pinned (.plain (OpenSpec.ofChange notePutsSpec)) notePutsCard

/-- THE SECOND FORM's CARD OF 'bypathlaw37.FlowMosts'. -/
def flowMostsUptoCard : Claim7 := { stood := { row := flowMostsUptoRow, standIns := [], harness := (true, "b9d9694cdb4f7c7e5b73132da9ecfd6ea079d83f6933a517943c62e5ebf731f5"), looks := false }, kinds := [], alts := [], laidByText := true, laidKinds := [.data, .data], laidTests := true, laidLooks := .later }
def FlowMostsUptoCardSaid : Prop := Claim7.holds Tryd.pinned (.plain (OpenSpec.upto flowMostsSpec)) flowMostsUptoCard

/-- THE SECOND FORM's CARD OF 'bypathlaw37.FlowCuts'. -/
def flowCutsUptoCard : Claim7 := { stood := { row := flowCutsUptoRow, standIns := [], harness := (true, "b9d9694cdb4f7c7e5b73132da9ecfd6ea079d83f6933a517943c62e5ebf731f5"), looks := false }, kinds := [], alts := [], laidByText := true, laidKinds := [.data, .data], laidTests := true, laidLooks := .later }
def FlowCutsUptoCardSaid : Prop := Claim7.holds Tryd.pinned (.plain (OpenSpec.upto flowCutsSpec)) flowCutsUptoCard

/-- THE SECOND FORM's CARD OF 'bypathlaw37.FlowRises'. -/
def flowRisesUptoCard : Claim7 := { stood := { row := flowRisesUptoRow, standIns := [], harness := (true, "b9d9694cdb4f7c7e5b73132da9ecfd6ea079d83f6933a517943c62e5ebf731f5"), looks := false }, kinds := [], alts := [], laidByText := true, laidKinds := [.data, .data], laidTests := true, laidLooks := .later }
def FlowRisesUptoCardSaid : Prop := Claim7.holds Tryd.pinned (.plain (OpenSpec.upto flowRisesSpec)) flowRisesUptoCard

/-- THE SECOND FORM's CARD OF 'bypathlaw03.FramePuts'. -/
def framePutsUptoCard : Claim7 := { stood := { row := framePutsUptoRow, standIns := [], harness := (true, "b9d9694cdb4f7c7e5b73132da9ecfd6ea079d83f6933a517943c62e5ebf731f5"), looks := false }, kinds := [], alts := [], laidByText := true, laidKinds := [.data], laidTests := true, laidLooks := .later }
def FramePutsUptoCardSaid : Prop := Claim7.holds Tryd.pinned (.plain (OpenSpec.upto framePutsSpec)) framePutsUptoCard

/-- THE SECOND FORM's CARD OF 'bypathlaw03.FrameHeads'. -/
def frameHeadsUptoCard : Claim7 := { stood := { row := frameHeadsUptoRow, standIns := [], harness := (true, "b9d9694cdb4f7c7e5b73132da9ecfd6ea079d83f6933a517943c62e5ebf731f5"), looks := false }, kinds := [], alts := [], laidByText := true, laidKinds := [.data], laidTests := true, laidLooks := .later }
def FrameHeadsUptoCardSaid : Prop := Claim7.holds Tryd.pinned (.plain (OpenSpec.upto frameHeadsSpec)) frameHeadsUptoCard

/-- THE SECOND FORM's CARD OF 'bypathlaw03.FrameBack'. -/
def frameBackUptoCard : Claim7 := { stood := { row := frameBackUptoRow, standIns := [], harness := (true, "b9d9694cdb4f7c7e5b73132da9ecfd6ea079d83f6933a517943c62e5ebf731f5"), looks := false }, kinds := [], alts := [], laidByText := true, laidKinds := [.data], laidTests := true, laidLooks := .later }
def FrameBackUptoCardSaid : Prop := Claim7.holds Tryd.pinned (.plain (OpenSpec.upto frameBackSpec)) frameBackUptoCard

/-- THE SECOND FORM's CARD OF 'bypathlaw03.FrameFull'. -/
def frameFullUptoCard : Claim7 := { stood := { row := frameFullUptoRow, standIns := [], harness := (true, "b9d9694cdb4f7c7e5b73132da9ecfd6ea079d83f6933a517943c62e5ebf731f5"), looks := false }, kinds := [], alts := [], laidByText := true, laidKinds := [.data], laidTests := true, laidLooks := .later }
def FrameFullUptoCardSaid : Prop := Claim7.holds Tryd.pinned (.plain (OpenSpec.upto frameFullSpec)) frameFullUptoCard

/-- THE SECOND FORM's CARD OF 'bypathlaw03.FrameTells'. -/
def frameTellsUptoCard : Claim7 := { stood := { row := frameTellsUptoRow, standIns := [], harness := (true, "b9d9694cdb4f7c7e5b73132da9ecfd6ea079d83f6933a517943c62e5ebf731f5"), looks := false }, kinds := [], alts := [], laidByText := true, laidKinds := [.data], laidTests := true, laidLooks := .later }
def FrameTellsUptoCardSaid : Prop := Claim7.holds Tryd.pinned (.plain (OpenSpec.upto frameTellsSpec)) frameTellsUptoCard

/-- THE SECOND FORM's CARD OF 'bypathlaw04.OpenPuts'. -/
def openPutsUptoCard : Claim7 := { stood := { row := openPutsUptoRow, standIns := [], harness := (true, "b9d9694cdb4f7c7e5b73132da9ecfd6ea079d83f6933a517943c62e5ebf731f5"), looks := false }, kinds := [], alts := [], laidByText := true, laidKinds := [.data], laidTests := true, laidLooks := .later }
def OpenPutsUptoCardSaid : Prop := Claim7.holds Tryd.pinned (.plain (OpenSpec.upto openPutsSpec)) openPutsUptoCard

/-- THE SECOND FORM's CARD OF 'bypathlaw36.BmpPuts'. -/
def bmpPutsUptoCard : Claim7 := { stood := { row := bmpPutsUptoRow, standIns := [], harness := (true, "b9d9694cdb4f7c7e5b73132da9ecfd6ea079d83f6933a517943c62e5ebf731f5"), looks := false }, kinds := [], alts := [], laidByText := true, laidKinds := [.data], laidTests := true, laidLooks := .later }
def BmpPutsUptoCardSaid : Prop := Claim7.holds Tryd.pinned (.plain (OpenSpec.upto bmpPutsSpec)) bmpPutsUptoCard

/-- THE SECOND FORM's CARD OF 'bypathlaw36.BmpGets'. -/
def bmpGetsUptoCard : Claim7 := { stood := { row := bmpGetsUptoRow, standIns := [], harness := (true, "b9d9694cdb4f7c7e5b73132da9ecfd6ea079d83f6933a517943c62e5ebf731f5"), looks := false }, kinds := [], alts := [], laidByText := true, laidKinds := [.data], laidTests := true, laidLooks := .later }
def BmpGetsUptoCardSaid : Prop := Claim7.holds Tryd.pinned (.plain (OpenSpec.upto bmpGetsSpec)) bmpGetsUptoCard

/-- THE SECOND FORM's CARD OF 'bypathlaw36.BmpAll'. -/
def bmpAllUptoCard : Claim7 := { stood := { row := bmpAllUptoRow, standIns := [], harness := (true, "b9d9694cdb4f7c7e5b73132da9ecfd6ea079d83f6933a517943c62e5ebf731f5"), looks := false }, kinds := [], alts := [], laidByText := true, laidKinds := [.data], laidTests := true, laidLooks := .later }
def BmpAllUptoCardSaid : Prop := Claim7.holds Tryd.pinned (.plain (OpenSpec.upto bmpAllSpec)) bmpAllUptoCard

/-- THE SECOND FORM's CARD OF 'bypathlaw08.NoteGets'. -/
def noteGetsUptoCard : Claim7 := { stood := { row := noteGetsUptoRow, standIns := [], harness := (true, "b9d9694cdb4f7c7e5b73132da9ecfd6ea079d83f6933a517943c62e5ebf731f5"), looks := false }, kinds := [], alts := [], laidByText := true, laidKinds := [.data, .data, .data, .data], laidTests := true, laidLooks := .later }
def NoteGetsUptoCardSaid : Prop := Claim7.holds Tryd.pinned (.plain (OpenSpec.upto noteGetsSpec)) noteGetsUptoCard

/-- THE SECOND FORM's CARD OF 'bypathlaw08.NoteSames'. -/
def noteSamesUptoCard : Claim7 := { stood := { row := noteSamesUptoRow, standIns := [], harness := (true, "b9d9694cdb4f7c7e5b73132da9ecfd6ea079d83f6933a517943c62e5ebf731f5"), looks := false }, kinds := [], alts := [], laidByText := true, laidKinds := [.data, .data, .data, .data], laidTests := true, laidLooks := .later }
def NoteSamesUptoCardSaid : Prop := Claim7.holds Tryd.pinned (.plain (OpenSpec.upto noteSamesSpec)) noteSamesUptoCard

/-- THE SECOND FORM's CARD OF 'bypathlaw08.NotePuts'. -/
def notePutsUptoCard : Claim7 := { stood := { row := notePutsUptoRow, standIns := [], harness := (true, "b9d9694cdb4f7c7e5b73132da9ecfd6ea079d83f6933a517943c62e5ebf731f5"), looks := false }, kinds := [], alts := [], laidByText := true, laidKinds := [.data, .data, .data, .data, .data], laidTests := true, laidLooks := .later }
def NotePutsUptoCardSaid : Prop := Claim7.holds Tryd.pinned (.plain (OpenSpec.upto notePutsSpec)) notePutsUptoCard
end Rows
end Go.Proofs.YteokhnkipandbaaDoor
