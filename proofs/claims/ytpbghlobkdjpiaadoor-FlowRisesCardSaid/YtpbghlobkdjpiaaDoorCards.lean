/-
  DERIVED. GIVEN WITH THE SEED: THE CARDS: each row of YtpbghlobkdjpiaaDoorRows.lean that lists a variable, with what it lists TIED to the program's text (the seventh form; the later family's looks); each row that meets fmt, with fmt's text TOLD by the authors' own Lean function (tested against real Go, not proved from fmt's source: count such statements apart). THE CARD IS WHAT COUNTS. Prove the row's statement (the work); the ties are given (YtpbghlobkdjpiaaDoorTie.lean); close each card by the builder's one call (the guide's Derived/Test/ToyasCard.lean, 'card_holds'). Laid BY PROGRAM, IN A SANDBOX (cutbox-door.mjs). By AI agents, Wed Nov 11 2026. No macro, syntax, notation, axiom, sorry.
-/
import Derived.Test.YtpbghlobkdjpiaaDoorRows
import GoSem.ClaimSeven
namespace Go.Proofs.YtpbghlobkdjpiaaDoor
namespace Rows

/-- THE TIED CARD OF 'bypathlaw37.FlowMosts'. -/
def flowMostsCard : Claim7 := { stood := { row := flowMostsRow, standIns := [], harness := (true, "a7c690b6bbe64662844314cdbe90d75329742eeab35c011ac631f0d76bad8b0e"), looks := false }, kinds := [], alts := [], laidByText := true, laidKinds := [.data, .data], laidTests := true, laidLooks := .later }
def FlowMostsCardSaid : Prop := Claim7.holds Tryd.pinned (.plain (OpenSpec.ofChange flowMostsSpec)) flowMostsCard

/-- THE TIED CARD OF 'bypathlaw37.FlowCuts'. -/
def flowCutsCard : Claim7 := { stood := { row := flowCutsRow, standIns := [], harness := (true, "a7c690b6bbe64662844314cdbe90d75329742eeab35c011ac631f0d76bad8b0e"), looks := false }, kinds := [], alts := [], laidByText := true, laidKinds := [.data, .data], laidTests := true, laidLooks := .later }
def FlowCutsCardSaid : Prop := Claim7.holds Tryd.pinned (.plain (OpenSpec.ofChange flowCutsSpec)) flowCutsCard

/-- THE TIED CARD OF 'bypathlaw37.FlowRises'. -/
def flowRisesCard : Claim7 := { stood := { row := flowRisesRow, standIns := [], harness := (true, "a7c690b6bbe64662844314cdbe90d75329742eeab35c011ac631f0d76bad8b0e"), looks := false }, kinds := [], alts := [], laidByText := true, laidKinds := [.data, .data], laidTests := true, laidLooks := .later }
def FlowRisesCardSaid : Prop := Claim7.holds Tryd.pinned (.plain (OpenSpec.ofChange flowRisesSpec)) flowRisesCard

/-- THE SECOND FORM's CARD OF 'bypathlaw37.FlowMosts'. -/
def flowMostsUptoCard : Claim7 := { stood := { row := flowMostsUptoRow, standIns := [], harness := (true, "a7c690b6bbe64662844314cdbe90d75329742eeab35c011ac631f0d76bad8b0e"), looks := false }, kinds := [], alts := [], laidByText := true, laidKinds := [.data, .data], laidTests := true, laidLooks := .later }
def FlowMostsUptoCardSaid : Prop := Claim7.holds Tryd.pinned (.plain (OpenSpec.upto flowMostsSpec)) flowMostsUptoCard

/-- THE SECOND FORM's CARD OF 'bypathlaw37.FlowCuts'. -/
def flowCutsUptoCard : Claim7 := { stood := { row := flowCutsUptoRow, standIns := [], harness := (true, "a7c690b6bbe64662844314cdbe90d75329742eeab35c011ac631f0d76bad8b0e"), looks := false }, kinds := [], alts := [], laidByText := true, laidKinds := [.data, .data], laidTests := true, laidLooks := .later }
def FlowCutsUptoCardSaid : Prop := Claim7.holds Tryd.pinned (.plain (OpenSpec.upto flowCutsSpec)) flowCutsUptoCard

/-- THE SECOND FORM's CARD OF 'bypathlaw37.FlowRises'. -/
def flowRisesUptoCard : Claim7 := { stood := { row := flowRisesUptoRow, standIns := [], harness := (true, "a7c690b6bbe64662844314cdbe90d75329742eeab35c011ac631f0d76bad8b0e"), looks := false }, kinds := [], alts := [], laidByText := true, laidKinds := [.data, .data], laidTests := true, laidLooks := .later }
def FlowRisesUptoCardSaid : Prop := Claim7.holds Tryd.pinned (.plain (OpenSpec.upto flowRisesSpec)) flowRisesUptoCard
end Rows
end Go.Proofs.YtpbghlobkdjpiaaDoor
