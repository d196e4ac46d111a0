/-
  No cell of these rows narrows 'for every input' (looked for: loops, veiled, ifaces, maps, wideKeys, modest, calm, conditions, laid).
  DERIVED. THE GIVEN ROWS OF THIS SEAT. 15 by the template 'for every input the law returns true; each argument reads behind the call as it read before'; 0 by the template 'total and deterministic' (their statements: YteokhnkipandbaaTotals.lean).
  GIVEN WITH THE SEED: the statements are not yours to turn. If you find one false, say at which input.
  Laid BY PROGRAM, IN A SANDBOX (cutbox-rows.mjs): the forced cells as the released guide's own fill.sh prints them over the translation 0946a96b5b063cc1… (all of the seat's roots in one cut). By AI agents, Wed Nov 11 2026. No macro, syntax, notation, axiom, sorry.
-/
import Derived.Test.YteokhnkipandbaaChecked
import GoSem.Claim
import GoSem.ClaimJoined
import GoSem.ClaimMapViews
import Derived.JoinedTies
import Derived.KernelRfl
namespace Go.Proofs.Yteokhnkipandbaa
/- THE CELL 'sum', in the pinned program and in every row, IS THE sha256 OF THE DUMP (.gsa) THAT YteokhnkipandbaaProg.lean LOADS. Nothing in Lean hashes anything: it is a label: what it is worth is what the hold of that sum in a sandbox is worth. -/
noncomputable def Try.pinned : Pinned := { name := "yteokhnkipandbaa", sum := "0946a96b5b063cc1a1b83d9c434a0a32bc3f7158608fd1613ac0c084229f850c", checked := Try.checked }
namespace Rows
def none {H : Type} : Left H := { results := [], args := [] }

/-- 'bypathlaw01.NumCodes': WHATEVER THE INPUT: true; the input reads as it did. -/
def numCodesSpec : ChangeSpec := { name := "numCodes", fn := fun _ => fun
  | [d1, d2, d3] => { results := [.lit (.bool true)], args := [d1, d2, d3] }
  | _ => none }
def numCodesRow : OpenClaim := { program := "yteokhnkipandbaa", sum := "0946a96b5b063cc1a1b83d9c434a0a32bc3f7158608fd1613ac0c084229f850c", func := "bypath/bypathlaw01.NumCodes", spec := "numCodes", named := ["math/bits.divideError", "math/bits.overflowError"], apart := false }
def NumCodesSaid : Prop := numCodesRow.holds Try.pinned (OpenSpec.ofChange numCodesSpec)

/-- ITS FALSE NEIGHBOUR: 'it returns false'. Refute it at one input. -/
def numCodesWrong : ChangeSpec := { name := "numCodes", fn := fun _ => fun
  | [d1, d2, d3] => { results := [.lit (.bool false)], args := [d1, d2, d3] }
  | _ => none }
def NumCodesWrongFalsely : Prop := numCodesRow.holds Try.pinned (OpenSpec.ofChange numCodesWrong)

/-- 'bypathlaw01.NumSums': WHATEVER THE INPUT: true; the input reads as it did. -/
def numSumsSpec : ChangeSpec := { name := "numSums", fn := fun _ => fun
  | [d1, d2] => { results := [.lit (.bool true)], args := [d1, d2] }
  | _ => none }
def numSumsRow : OpenClaim := { program := "yteokhnkipandbaa", sum := "0946a96b5b063cc1a1b83d9c434a0a32bc3f7158608fd1613ac0c084229f850c", func := "bypath/bypathlaw01.NumSums", spec := "numSums", named := ["math/bits.divideError", "math/bits.overflowError"], apart := false }
def NumSumsSaid : Prop := numSumsRow.holds Try.pinned (OpenSpec.ofChange numSumsSpec)

/-- ITS FALSE NEIGHBOUR: 'it returns false'. Refute it at one input. -/
def numSumsWrong : ChangeSpec := { name := "numSums", fn := fun _ => fun
  | [d1, d2] => { results := [.lit (.bool false)], args := [d1, d2] }
  | _ => none }
def NumSumsWrongFalsely : Prop := numSumsRow.holds Try.pinned (OpenSpec.ofChange numSumsWrong)

/-- 'bypathlaw01.NumParts': WHATEVER THE INPUT: true; the input reads as it did. -/
def numPartsSpec : ChangeSpec := { name := "numParts", fn := fun _ => fun
  | [d1, d2, d3, d4] => { results := [.lit (.bool true)], args := [d1, d2, d3, d4] }
  | _ => none }
def numPartsRow : OpenClaim := { program := "yteokhnkipandbaa", sum := "0946a96b5b063cc1a1b83d9c434a0a32bc3f7158608fd1613ac0c084229f850c", func := "bypath/bypathlaw01.NumParts", spec := "numParts", named := ["math/bits.divideError", "math/bits.overflowError"], apart := false }
def NumPartsSaid : Prop := numPartsRow.holds Try.pinned (OpenSpec.ofChange numPartsSpec)

/-- ITS FALSE NEIGHBOUR: 'it returns false'. Refute it at one input. -/
def numPartsWrong : ChangeSpec := { name := "numParts", fn := fun _ => fun
  | [d1, d2, d3, d4] => { results := [.lit (.bool false)], args := [d1, d2, d3, d4] }
  | _ => none }
def NumPartsWrongFalsely : Prop := numPartsRow.holds Try.pinned (OpenSpec.ofChange numPartsWrong)

/-- 'bypathlaw01.NumRises': WHATEVER THE INPUT: true; the input reads as it did. -/
def numRisesSpec : ChangeSpec := { name := "numRises", fn := fun _ => fun
  | [d1, d2, d3] => { results := [.lit (.bool true)], args := [d1, d2, d3] }
  | _ => none }
def numRisesRow : OpenClaim := { program := "yteokhnkipandbaa", sum := "0946a96b5b063cc1a1b83d9c434a0a32bc3f7158608fd1613ac0c084229f850c", func := "bypath/bypathlaw01.NumRises", spec := "numRises", named := ["math/bits.divideError", "math/bits.overflowError"], apart := false }
def NumRisesSaid : Prop := numRisesRow.holds Try.pinned (OpenSpec.ofChange numRisesSpec)

/-- ITS FALSE NEIGHBOUR: 'it returns false'. Refute it at one input. -/
def numRisesWrong : ChangeSpec := { name := "numRises", fn := fun _ => fun
  | [d1, d2, d3] => { results := [.lit (.bool false)], args := [d1, d2, d3] }
  | _ => none }
def NumRisesWrongFalsely : Prop := numRisesRow.holds Try.pinned (OpenSpec.ofChange numRisesWrong)

/-- 'bypathlaw01.NumMasks': WHATEVER THE INPUT: true; the input reads as it did. -/
def numMasksSpec : ChangeSpec := { name := "numMasks", fn := fun _ => fun
  | [d1, d2] => { results := [.lit (.bool true)], args := [d1, d2] }
  | _ => none }
def numMasksRow : OpenClaim := { program := "yteokhnkipandbaa", sum := "0946a96b5b063cc1a1b83d9c434a0a32bc3f7158608fd1613ac0c084229f850c", func := "bypath/bypathlaw01.NumMasks", spec := "numMasks", named := ["math/bits.divideError", "math/bits.overflowError"], apart := false }
def NumMasksSaid : Prop := numMasksRow.holds Try.pinned (OpenSpec.ofChange numMasksSpec)

/-- ITS FALSE NEIGHBOUR: 'it returns false'. Refute it at one input. -/
def numMasksWrong : ChangeSpec := { name := "numMasks", fn := fun _ => fun
  | [d1, d2] => { results := [.lit (.bool false)], args := [d1, d2] }
  | _ => none }
def NumMasksWrongFalsely : Prop := numMasksRow.holds Try.pinned (OpenSpec.ofChange numMasksWrong)

/-- 'bypathlaw01.NumWhole': WHATEVER THE INPUT: true; the input reads as it did. -/
def numWholeSpec : ChangeSpec := { name := "numWhole", fn := fun _ => fun
  | [d1, d2] => { results := [.lit (.bool true)], args := [d1, d2] }
  | _ => none }
def numWholeRow : OpenClaim := { program := "yteokhnkipandbaa", sum := "0946a96b5b063cc1a1b83d9c434a0a32bc3f7158608fd1613ac0c084229f850c", func := "bypath/bypathlaw01.NumWhole", spec := "numWhole", named := ["math/bits.divideError", "math/bits.overflowError"], apart := false }
def NumWholeSaid : Prop := numWholeRow.holds Try.pinned (OpenSpec.ofChange numWholeSpec)

/-- ITS FALSE NEIGHBOUR: 'it returns false'. Refute it at one input. -/
def numWholeWrong : ChangeSpec := { name := "numWhole", fn := fun _ => fun
  | [d1, d2] => { results := [.lit (.bool false)], args := [d1, d2] }
  | _ => none }
def NumWholeWrongFalsely : Prop := numWholeRow.holds Try.pinned (OpenSpec.ofChange numWholeWrong)

/-- 'bypathlaw01.NumReads': WHATEVER THE INPUT: true; the input reads as it did. -/
def numReadsSpec : ChangeSpec := { name := "numReads", fn := fun _ => fun
  | [d1, d2] => { results := [.lit (.bool true)], args := [d1, d2] }
  | _ => none }
def numReadsRow : OpenClaim := { program := "yteokhnkipandbaa", sum := "0946a96b5b063cc1a1b83d9c434a0a32bc3f7158608fd1613ac0c084229f850c", func := "bypath/bypathlaw01.NumReads", spec := "numReads", named := ["math/bits.divideError", "math/bits.overflowError"], apart := false }
def NumReadsSaid : Prop := numReadsRow.holds Try.pinned (OpenSpec.ofChange numReadsSpec)

/-- ITS FALSE NEIGHBOUR: 'it returns false'. Refute it at one input. -/
def numReadsWrong : ChangeSpec := { name := "numReads", fn := fun _ => fun
  | [d1, d2] => { results := [.lit (.bool false)], args := [d1, d2] }
  | _ => none }
def NumReadsWrongFalsely : Prop := numReadsRow.holds Try.pinned (OpenSpec.ofChange numReadsWrong)

/-- 'bypathlaw04.OpenCaps': WHATEVER THE INPUT: true; the input reads as it did. -/
def openCapsSpec : ChangeSpec := { name := "openCaps", fn := fun _ => fun
  | [d1, d2, d3] => { results := [.lit (.bool true)], args := [d1, d2, d3] }
  | _ => none }
def openCapsRow : OpenClaim := { program := "yteokhnkipandbaa", sum := "0946a96b5b063cc1a1b83d9c434a0a32bc3f7158608fd1613ac0c084229f850c", func := "bypath/bypathlaw04.OpenCaps", spec := "openCaps", unfollowed := true, recurses := true, apart := false }
def OpenCapsSaid : Prop := openCapsRow.holds Try.pinned (OpenSpec.ofChange openCapsSpec)

/-- ITS FALSE NEIGHBOUR: 'it returns false'. Refute it at one input. -/
def openCapsWrong : ChangeSpec := { name := "openCaps", fn := fun _ => fun
  | [d1, d2, d3] => { results := [.lit (.bool false)], args := [d1, d2, d3] }
  | _ => none }
def OpenCapsWrongFalsely : Prop := openCapsRow.holds Try.pinned (OpenSpec.ofChange openCapsWrong)

/-- 'bypathlaw04.OpenWhole': WHATEVER THE INPUT: true; the input reads as it did. -/
def openWholeSpec : ChangeSpec := { name := "openWhole", fn := fun _ => fun
  | [d] => { results := [.lit (.bool true)], args := [d] }
  | _ => none }
def openWholeRow : OpenClaim := { program := "yteokhnkipandbaa", sum := "0946a96b5b063cc1a1b83d9c434a0a32bc3f7158608fd1613ac0c084229f850c", func := "bypath/bypathlaw04.OpenWhole", spec := "openWhole", unfollowed := true, recurses := true, apart := false }
def OpenWholeSaid : Prop := openWholeRow.holds Try.pinned (OpenSpec.ofChange openWholeSpec)

/-- ITS FALSE NEIGHBOUR: 'it returns false'. Refute it at one input. -/
def openWholeWrong : ChangeSpec := { name := "openWhole", fn := fun _ => fun
  | [d] => { results := [.lit (.bool false)], args := [d] }
  | _ => none }
def OpenWholeWrongFalsely : Prop := openWholeRow.holds Try.pinned (OpenSpec.ofChange openWholeWrong)

/-- 'bypathlaw04.OpenShort': WHATEVER THE INPUT: true; the input reads as it did. -/
def openShortSpec : ChangeSpec := { name := "openShort", fn := fun _ => fun
  | [d1, d2] => { results := [.lit (.bool true)], args := [d1, d2] }
  | _ => none }
def openShortRow : OpenClaim := { program := "yteokhnkipandbaa", sum := "0946a96b5b063cc1a1b83d9c434a0a32bc3f7158608fd1613ac0c084229f850c", func := "bypath/bypathlaw04.OpenShort", spec := "openShort", unfollowed := true, recurses := true, apart := false }
def OpenShortSaid : Prop := openShortRow.holds Try.pinned (OpenSpec.ofChange openShortSpec)

/-- ITS FALSE NEIGHBOUR: 'it returns false'. Refute it at one input. -/
def openShortWrong : ChangeSpec := { name := "openShort", fn := fun _ => fun
  | [d1, d2] => { results := [.lit (.bool false)], args := [d1, d2] }
  | _ => none }
def OpenShortWrongFalsely : Prop := openShortRow.holds Try.pinned (OpenSpec.ofChange openShortWrong)

/-- 'bypathlaw21.LoadDoes': WHATEVER THE INPUT: true; the input reads as it did. -/
def loadDoesSpec : ChangeSpec := { name := "loadDoes", fn := fun _ => fun
  | [d1, d2, d3] => { results := [.lit (.bool true)], args := [d1, d2, d3] }
  | _ => none }
def loadDoesRow : OpenClaim := { program := "yteokhnkipandbaa", sum := "0946a96b5b063cc1a1b83d9c434a0a32bc3f7158608fd1613ac0c084229f850c", func := "bypath/bypathlaw21.LoadDoes", spec := "loadDoes", unfollowed := true, recurses := true, apart := false }
def LoadDoesSaid : Prop := loadDoesRow.holds Try.pinned (OpenSpec.ofChange loadDoesSpec)

/-- ITS FALSE NEIGHBOUR: 'it returns false'. Refute it at one input. -/
def loadDoesWrong : ChangeSpec := { name := "loadDoes", fn := fun _ => fun
  | [d1, d2, d3] => { results := [.lit (.bool false)], args := [d1, d2, d3] }
  | _ => none }
def LoadDoesWrongFalsely : Prop := loadDoesRow.holds Try.pinned (OpenSpec.ofChange loadDoesWrong)

/-- 'bypathlaw21.LoadProjects': WHATEVER THE INPUT: true; the input reads as it did. -/
def loadProjectsSpec : ChangeSpec := { name := "loadProjects", fn := fun _ => fun
  | [d] => { results := [.lit (.bool true)], args := [d] }
  | _ => none }
def loadProjectsRow : OpenClaim := { program := "yteokhnkipandbaa", sum := "0946a96b5b063cc1a1b83d9c434a0a32bc3f7158608fd1613ac0c084229f850c", func := "bypath/bypathlaw21.LoadProjects", spec := "loadProjects", unfollowed := true, recurses := true, apart := false }
def LoadProjectsSaid : Prop := loadProjectsRow.holds Try.pinned (OpenSpec.ofChange loadProjectsSpec)

/-- ITS FALSE NEIGHBOUR: 'it returns false'. Refute it at one input. -/
def loadProjectsWrong : ChangeSpec := { name := "loadProjects", fn := fun _ => fun
  | [d] => { results := [.lit (.bool false)], args := [d] }
  | _ => none }
def LoadProjectsWrongFalsely : Prop := loadProjectsRow.holds Try.pinned (OpenSpec.ofChange loadProjectsWrong)

/-- 'bypathlaw21.LoadSums': WHATEVER THE INPUT: true; the input reads as it did. -/
def loadSumsSpec : ChangeSpec := { name := "loadSums", fn := fun _ => fun
  | [d1, d2] => { results := [.lit (.bool true)], args := [d1, d2] }
  | _ => none }
def loadSumsRow : OpenClaim := { program := "yteokhnkipandbaa", sum := "0946a96b5b063cc1a1b83d9c434a0a32bc3f7158608fd1613ac0c084229f850c", func := "bypath/bypathlaw21.LoadSums", spec := "loadSums", unfollowed := true, recurses := true, apart := false }
def LoadSumsSaid : Prop := loadSumsRow.holds Try.pinned (OpenSpec.ofChange loadSumsSpec)

/-- ITS FALSE NEIGHBOUR: 'it returns false'. Refute it at one input. -/
def loadSumsWrong : ChangeSpec := { name := "loadSums", fn := fun _ => fun
  | [d1, d2] => { results := [.lit (.bool false)], args := [d1, d2] }
  | _ => none }
def LoadSumsWrongFalsely : Prop := loadSumsRow.holds Try.pinned (OpenSpec.ofChange loadSumsWrong)

/-- 'bypathlaw21.LoadNobody': WHATEVER THE INPUT: true; the input reads as it did. -/
def loadNobodySpec : ChangeSpec := { name := "loadNobody", fn := fun _ => fun
  | [d1, d2] => { results := [.lit (.bool true)], args := [d1, d2] }
  | _ => none }
def loadNobodyRow : OpenClaim := { program := "yteokhnkipandbaa", sum := "0946a96b5b063cc1a1b83d9c434a0a32bc3f7158608fd1613ac0c084229f850c", func := "bypath/bypathlaw21.LoadNobody", spec := "loadNobody", unfollowed := true, recurses := true, apart := false }
def LoadNobodySaid : Prop := loadNobodyRow.holds Try.pinned (OpenSpec.ofChange loadNobodySpec)

/-- ITS FALSE NEIGHBOUR: 'it returns false'. Refute it at one input. -/
def loadNobodyWrong : ChangeSpec := { name := "loadNobody", fn := fun _ => fun
  | [d1, d2] => { results := [.lit (.bool false)], args := [d1, d2] }
  | _ => none }
def LoadNobodyWrongFalsely : Prop := loadNobodyRow.holds Try.pinned (OpenSpec.ofChange loadNobodyWrong)

/-- 'bypathlaw21.LoadOrders': WHATEVER THE INPUT: true; the input reads as it did. -/
def loadOrdersSpec : ChangeSpec := { name := "loadOrders", fn := fun _ => fun
  | [d1, d2] => { results := [.lit (.bool true)], args := [d1, d2] }
  | _ => none }
def loadOrdersRow : OpenClaim := { program := "yteokhnkipandbaa", sum := "0946a96b5b063cc1a1b83d9c434a0a32bc3f7158608fd1613ac0c084229f850c", func := "bypath/bypathlaw21.LoadOrders", spec := "loadOrders", unfollowed := true, recurses := true, apart := false }
def LoadOrdersSaid : Prop := loadOrdersRow.holds Try.pinned (OpenSpec.ofChange loadOrdersSpec)

/-- ITS FALSE NEIGHBOUR: 'it returns false'. Refute it at one input. -/
def loadOrdersWrong : ChangeSpec := { name := "loadOrders", fn := fun _ => fun
  | [d1, d2] => { results := [.lit (.bool false)], args := [d1, d2] }
  | _ => none }
def LoadOrdersWrongFalsely : Prop := loadOrdersRow.holds Try.pinned (OpenSpec.ofChange loadOrdersWrong)

/- THE SECOND FORM. 'bulk': how many values and letters a reading holds, each counted each time it is reached (what is shared counts as often as it is met; a slice's spare places count too). A statement '..UptoSaid' is the law's where the arguments, and the package variables that the reading takes, are together of bulk at most 1048576: NARROWER than '..Said'. Prove '..Said' where nothing that the law and all that it calls make is longer than what came in: it says more and counts as full. Else prove '..UptoSaid'. A law counts once. -/
mutual
def uptoBulk {H : Type} : DataW H → Nat
  | .lit (.string bytes) => bytes.length + 1
  | .lit _ => 1
  | .nil => 1
  | .ptr d => uptoBulk d + 1
  | .slice elems spare => uptoBulkAll elems + uptoBulkAll spare + 1
  | .agg parts => uptoBulkAll parts + 1
  | .iface _ d => uptoBulk d + 1
  | .map entries => uptoBulkEntries entries + 1
  | .held _ => 1
def uptoBulkAll {H : Type} : List (DataW H) → Nat
  | [] => 0
  | d :: r => uptoBulk d + uptoBulkAll r
def uptoBulkEntries {H : Type} : List (Lit × DataW H) → Nat
  | [] => 0
  | x :: r => uptoBulkEntry x + uptoBulkEntries r
def uptoBulkEntry {H : Type} : Lit × DataW H → Nat
  | (.string bytes, d) => bytes.length + uptoBulk d + 1
  | (_, d) => uptoBulk d + 1
 end
def uptoSmall : (H : Type) → List (DataW H) → Bool := fun _ ds => decide (uptoBulkAll ds ≤ 1048576)
def OpenSpec.upto (s : _root_.Go.ChangeSpec) : _root_.Go.OpenSpec := { _root_.Go.OpenSpec.ofChange s with cond := some uptoSmall }

/-- 'bypathlaw01.NumCodes', WHERE WHAT IT READS IS OF BULK AT MOST 1048576: true; the input reads as it did. -/
def numCodesUptoRow : OpenClaim := { program := "yteokhnkipandbaa", sum := "0946a96b5b063cc1a1b83d9c434a0a32bc3f7158608fd1613ac0c084229f850c", func := "bypath/bypathlaw01.NumCodes", spec := "numCodes", named := ["math/bits.divideError", "math/bits.overflowError"], apart := false, narrowed := true }
def NumCodesUptoSaid : Prop := numCodesUptoRow.holds Try.pinned (OpenSpec.upto numCodesSpec)

/-- 'bypathlaw01.NumSums', WHERE WHAT IT READS IS OF BULK AT MOST 1048576: true; the input reads as it did. -/
def numSumsUptoRow : OpenClaim := { program := "yteokhnkipandbaa", sum := "0946a96b5b063cc1a1b83d9c434a0a32bc3f7158608fd1613ac0c084229f850c", func := "bypath/bypathlaw01.NumSums", spec := "numSums", named := ["math/bits.divideError", "math/bits.overflowError"], apart := false, narrowed := true }
def NumSumsUptoSaid : Prop := numSumsUptoRow.holds Try.pinned (OpenSpec.upto numSumsSpec)

/-- 'bypathlaw01.NumParts', WHERE WHAT IT READS IS OF BULK AT MOST 1048576: true; the input reads as it did. -/
def numPartsUptoRow : OpenClaim := { program := "yteokhnkipandbaa", sum := "0946a96b5b063cc1a1b83d9c434a0a32bc3f7158608fd1613ac0c084229f850c", func := "bypath/bypathlaw01.NumParts", spec := "numParts", named := ["math/bits.divideError", "math/bits.overflowError"], apart := false, narrowed := true }
def NumPartsUptoSaid : Prop := numPartsUptoRow.holds Try.pinned (OpenSpec.upto numPartsSpec)

/-- 'bypathlaw01.NumRises', WHERE WHAT IT READS IS OF BULK AT MOST 1048576: true; the input reads as it did. -/
def numRisesUptoRow : OpenClaim := { program := "yteokhnkipandbaa", sum := "0946a96b5b063cc1a1b83d9c434a0a32bc3f7158608fd1613ac0c084229f850c", func := "bypath/bypathlaw01.NumRises", spec := "numRises", named := ["math/bits.divideError", "math/bits.overflowError"], apart := false, narrowed := true }
def NumRisesUptoSaid : Prop := numRisesUptoRow.holds Try.pinned (OpenSpec.upto numRisesSpec)

/-- 'bypathlaw01.NumMasks', WHERE WHAT IT READS IS OF BULK AT MOST 1048576: true; the input reads as it did. -/
def numMasksUptoRow : OpenClaim := { program := "yteokhnkipandbaa", sum := "0946a96b5b063cc1a1b83d9c434a0a32bc3f7158608fd1613ac0c084229f850c", func := "bypath/bypathlaw01.NumMasks", spec := "numMasks", named := ["math/bits.divideError", "math/bits.overflowError"], apart := false, narrowed := true }
def NumMasksUptoSaid : Prop := numMasksUptoRow.holds Try.pinned (OpenSpec.upto numMasksSpec)

/-- 'bypathlaw01.NumWhole', WHERE WHAT IT READS IS OF BULK AT MOST 1048576: true; the input reads as it did. -/
def numWholeUptoRow : OpenClaim := { program := "yteokhnkipandbaa", sum := "0946a96b5b063cc1a1b83d9c434a0a32bc3f7158608fd1613ac0c084229f850c", func := "bypath/bypathlaw01.NumWhole", spec := "numWhole", named := ["math/bits.divideError", "math/bits.overflowError"], apart := false, narrowed := true }
def NumWholeUptoSaid : Prop := numWholeUptoRow.holds Try.pinned (OpenSpec.upto numWholeSpec)

/-- 'bypathlaw01.NumReads', WHERE WHAT IT READS IS OF BULK AT MOST 1048576: true; the input reads as it did. -/
def numReadsUptoRow : OpenClaim := { program := "yteokhnkipandbaa", sum := "0946a96b5b063cc1a1b83d9c434a0a32bc3f7158608fd1613ac0c084229f850c", func := "bypath/bypathlaw01.NumReads", spec := "numReads", named := ["math/bits.divideError", "math/bits.overflowError"], apart := false, narrowed := true }
def NumReadsUptoSaid : Prop := numReadsUptoRow.holds Try.pinned (OpenSpec.upto numReadsSpec)

/-- 'bypathlaw04.OpenCaps', WHERE WHAT IT READS IS OF BULK AT MOST 1048576: true; the input reads as it did. -/
def openCapsUptoRow : OpenClaim := { program := "yteokhnkipandbaa", sum := "0946a96b5b063cc1a1b83d9c434a0a32bc3f7158608fd1613ac0c084229f850c", func := "bypath/bypathlaw04.OpenCaps", spec := "openCaps", unfollowed := true, recurses := true, apart := false, narrowed := true }
def OpenCapsUptoSaid : Prop := openCapsUptoRow.holds Try.pinned (OpenSpec.upto openCapsSpec)

/-- 'bypathlaw04.OpenWhole', WHERE WHAT IT READS IS OF BULK AT MOST 1048576: true; the input reads as it did. -/
def openWholeUptoRow : OpenClaim := { program := "yteokhnkipandbaa", sum := "0946a96b5b063cc1a1b83d9c434a0a32bc3f7158608fd1613ac0c084229f850c", func := "bypath/bypathlaw04.OpenWhole", spec := "openWhole", unfollowed := true, recurses := true, apart := false, narrowed := true }
def OpenWholeUptoSaid : Prop := openWholeUptoRow.holds Try.pinned (OpenSpec.upto openWholeSpec)

/-- 'bypathlaw04.OpenShort', WHERE WHAT IT READS IS OF BULK AT MOST 1048576: true; the input reads as it did. -/
def openShortUptoRow : OpenClaim := { program := "yteokhnkipandbaa", sum := "0946a96b5b063cc1a1b83d9c434a0a32bc3f7158608fd1613ac0c084229f850c", func := "bypath/bypathlaw04.OpenShort", spec := "openShort", unfollowed := true, recurses := true, apart := false, narrowed := true }
def OpenShortUptoSaid : Prop := openShortUptoRow.holds Try.pinned (OpenSpec.upto openShortSpec)

/-- 'bypathlaw21.LoadDoes', WHERE WHAT IT READS IS OF BULK AT MOST 1048576: true; the input reads as it did. -/
def loadDoesUptoRow : OpenClaim := { program := "yteokhnkipandbaa", sum := "0946a96b5b063cc1a1b83d9c434a0a32bc3f7158608fd1613ac0c084229f850c", func := "bypath/bypathlaw21.LoadDoes", spec := "loadDoes", unfollowed := true, recurses := true, apart := false, narrowed := true }
def LoadDoesUptoSaid : Prop := loadDoesUptoRow.holds Try.pinned (OpenSpec.upto loadDoesSpec)

/-- 'bypathlaw21.LoadProjects', WHERE WHAT IT READS IS OF BULK AT MOST 1048576: true; the input reads as it did. -/
def loadProjectsUptoRow : OpenClaim := { program := "yteokhnkipandbaa", sum := "0946a96b5b063cc1a1b83d9c434a0a32bc3f7158608fd1613ac0c084229f850c", func := "bypath/bypathlaw21.LoadProjects", spec := "loadProjects", unfollowed := true, recurses := true, apart := false, narrowed := true }
def LoadProjectsUptoSaid : Prop := loadProjectsUptoRow.holds Try.pinned (OpenSpec.upto loadProjectsSpec)

/-- 'bypathlaw21.LoadSums', WHERE WHAT IT READS IS OF BULK AT MOST 1048576: true; the input reads as it did. -/
def loadSumsUptoRow : OpenClaim := { program := "yteokhnkipandbaa", sum := "0946a96b5b063cc1a1b83d9c434a0a32bc3f7158608fd1613ac0c084229f850c", func := "bypath/bypathlaw21.LoadSums", spec := "loadSums", unfollowed := true, recurses := true, apart := false, narrowed := true }
def LoadSumsUptoSaid : Prop := loadSumsUptoRow.holds Try.pinned (OpenSpec.upto loadSumsSpec)

/-- 'bypathlaw21.LoadNobody', WHERE WHAT IT READS IS OF BULK AT MOST 1048576: true; the input reads as it did. -/
def loadNobodyUptoRow : OpenClaim := { program := "yteokhnkipandbaa", sum := "0946a96b5b063cc1a1b83d9c434a0a32bc3f7158608fd1613ac0c084229f850c", func := "bypath/bypathlaw21.LoadNobody", spec := "loadNobody", unfollowed := true, recurses := true, apart := false, narrowed := true }
def LoadNobodyUptoSaid : Prop := loadNobodyUptoRow.holds Try.pinned (OpenSpec.upto loadNobodySpec)

/-- 'bypathlaw21.LoadOrders', WHERE WHAT IT READS IS OF BULK AT MOST 1048576: true; the input reads as it did. -/
def loadOrdersUptoRow : OpenClaim := { program := "yteokhnkipandbaa", sum := "0946a96b5b063cc1a1b83d9c434a0a32bc3f7158608fd1613ac0c084229f850c", func := "bypath/bypathlaw21.LoadOrders", spec := "loadOrders", unfollowed := true, recurses := true, apart := false, narrowed := true }
def LoadOrdersUptoSaid : Prop := loadOrdersUptoRow.holds Try.pinned (OpenSpec.upto loadOrdersSpec)

end Rows
end Go.Proofs.Yteokhnkipandbaa
