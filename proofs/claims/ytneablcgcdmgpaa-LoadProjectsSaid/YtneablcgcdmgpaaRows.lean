/-
  No cell of these rows narrows 'for every input' (looked for: loops, veiled, ifaces, maps, wideKeys, modest, calm, conditions, laid).
  DERIVED. THE GIVEN ROWS OF THIS SEAT. 5 by the template 'for every input the law returns true; each argument reads behind the call as it read before'; 0 by the template 'total and deterministic' (their statements: YtneablcgcdmgpaaTotals.lean).
  GIVEN WITH THE SEED: the statements are not yours to turn. If you find one false, say at which input.
  Laid BY PROGRAM, IN A SANDBOX (cutbox-rows.mjs): the forced cells as the released guide's own fill.sh prints them over the translation c0847c4a7bbfa273… (all of the seat's roots in one cut). By AI agents, Wed Nov 11 2026. No macro, syntax, notation, axiom, sorry.
-/
import Derived.Test.YtneablcgcdmgpaaChecked
import GoSem.Claim
import GoSem.ClaimJoined
import GoSem.ClaimMapViews
import Derived.JoinedTies
import Derived.KernelRfl
namespace Go.Proofs.Ytneablcgcdmgpaa
/- THE CELL 'sum', in the pinned program and in every row, IS THE sha256 OF THE DUMP (.gsa) THAT YtneablcgcdmgpaaProg.lean LOADS. Nothing in Lean hashes anything: it is a label: what it is worth is what the hold of that sum in a sandbox is worth. -/
noncomputable def Try.pinned : Pinned := { name := "ytneablcgcdmgpaa", sum := "c0847c4a7bbfa273a5a5b01f59c5d599f0fb8de52599cb87b3cbc893c5ada2e9", checked := Try.checked }
namespace Rows
def none {H : Type} : Left H := { results := [], args := [] }

/-- 'bypathlaw21.LoadDoes': WHATEVER THE INPUT: true; the input reads as it did. -/
def loadDoesSpec : ChangeSpec := { name := "loadDoes", fn := fun _ => fun
  | [d1, d2, d3] => { results := [.lit (.bool true)], args := [d1, d2, d3] }
  | _ => none }
def loadDoesRow : OpenClaim := { program := "ytneablcgcdmgpaa", sum := "c0847c4a7bbfa273a5a5b01f59c5d599f0fb8de52599cb87b3cbc893c5ada2e9", func := "bypath/bypathlaw21.LoadDoes", spec := "loadDoes", unfollowed := true, recurses := true, apart := false }
def LoadDoesSaid : Prop := loadDoesRow.holds Try.pinned (OpenSpec.ofChange loadDoesSpec)

/-- ITS FALSE NEIGHBOUR: 'it returns false'. Refute it at one input. -/
def loadDoesWrong : ChangeSpec := { name := "loadDoes", fn := fun _ => fun
  | [d1, d2, d3] => { results := [.lit (.bool false)], args := [d1, d2, d3] }
  | _ => none }
def LoadDoesWrongFalsely : Prop := loadDoesRow.holds Try.pinned (OpenSpec.ofChange loadDoesWrong)

/-- 'bypathlaw21.LoadProjects': WHATEVER THE INPUT: true; the input reads as it did. -/
def loadProjectsSpec : ChangeSpec := { name := "loadProjects", fn := fun _ => fun
  | [d] => { results := [.lit (.bool true)], args := [d] }
  | _ => none }
def loadProjectsRow : OpenClaim := { program := "ytneablcgcdmgpaa", sum := "c0847c4a7bbfa273a5a5b01f59c5d599f0fb8de52599cb87b3cbc893c5ada2e9", func := "bypath/bypathlaw21.LoadProjects", spec := "loadProjects", unfollowed := true, recurses := true, apart := false }
def LoadProjectsSaid : Prop := loadProjectsRow.holds Try.pinned (OpenSpec.ofChange loadProjectsSpec)

/-- ITS FALSE NEIGHBOUR: 'it returns false'. Refute it at one input. -/
def loadProjectsWrong : ChangeSpec := { name := "loadProjects", fn := fun _ => fun
  | [d] => { results := [.lit (.bool false)], args := [d] }
  | _ => none }
def LoadProjectsWrongFalsely : Prop := loadProjectsRow.holds Try.pinned (OpenSpec.ofChange loadProjectsWrong)

/-- 'bypathlaw21.LoadSums': WHATEVER THE INPUT: true; the input reads as it did. -/
def loadSumsSpec : ChangeSpec := { name := "loadSums", fn := fun _ => fun
  | [d1, d2] => { results := [.lit (.bool true)], args := [d1, d2] }
  | _ => none }
def loadSumsRow : OpenClaim := { program := "ytneablcgcdmgpaa", sum := "c0847c4a7bbfa273a5a5b01f59c5d599f0fb8de52599cb87b3cbc893c5ada2e9", func := "bypath/bypathlaw21.LoadSums", spec := "loadSums", unfollowed := true, recurses := true, apart := false }
def LoadSumsSaid : Prop := loadSumsRow.holds Try.pinned (OpenSpec.ofChange loadSumsSpec)

/-- ITS FALSE NEIGHBOUR: 'it returns false'. Refute it at one input. -/
def loadSumsWrong : ChangeSpec := { name := "loadSums", fn := fun _ => fun
  | [d1, d2] => { results := [.lit (.bool false)], args := [d1, d2] }
  | _ => none }
def LoadSumsWrongFalsely : Prop := loadSumsRow.holds Try.pinned (OpenSpec.ofChange loadSumsWrong)

/-- 'bypathlaw21.LoadNobody': WHATEVER THE INPUT: true; the input reads as it did. -/
def loadNobodySpec : ChangeSpec := { name := "loadNobody", fn := fun _ => fun
  | [d1, d2] => { results := [.lit (.bool true)], args := [d1, d2] }
  | _ => none }
def loadNobodyRow : OpenClaim := { program := "ytneablcgcdmgpaa", sum := "c0847c4a7bbfa273a5a5b01f59c5d599f0fb8de52599cb87b3cbc893c5ada2e9", func := "bypath/bypathlaw21.LoadNobody", spec := "loadNobody", unfollowed := true, recurses := true, apart := false }
def LoadNobodySaid : Prop := loadNobodyRow.holds Try.pinned (OpenSpec.ofChange loadNobodySpec)

/-- ITS FALSE NEIGHBOUR: 'it returns false'. Refute it at one input. -/
def loadNobodyWrong : ChangeSpec := { name := "loadNobody", fn := fun _ => fun
  | [d1, d2] => { results := [.lit (.bool false)], args := [d1, d2] }
  | _ => none }
def LoadNobodyWrongFalsely : Prop := loadNobodyRow.holds Try.pinned (OpenSpec.ofChange loadNobodyWrong)

/-- 'bypathlaw21.LoadOrders': WHATEVER THE INPUT: true; the input reads as it did. -/
def loadOrdersSpec : ChangeSpec := { name := "loadOrders", fn := fun _ => fun
  | [d1, d2] => { results := [.lit (.bool true)], args := [d1, d2] }
  | _ => none }
def loadOrdersRow : OpenClaim := { program := "ytneablcgcdmgpaa", sum := "c0847c4a7bbfa273a5a5b01f59c5d599f0fb8de52599cb87b3cbc893c5ada2e9", func := "bypath/bypathlaw21.LoadOrders", spec := "loadOrders", unfollowed := true, recurses := true, apart := false }
def LoadOrdersSaid : Prop := loadOrdersRow.holds Try.pinned (OpenSpec.ofChange loadOrdersSpec)

/-- ITS FALSE NEIGHBOUR: 'it returns false'. Refute it at one input. -/
def loadOrdersWrong : ChangeSpec := { name := "loadOrders", fn := fun _ => fun
  | [d1, d2] => { results := [.lit (.bool false)], args := [d1, d2] }
  | _ => none }
def LoadOrdersWrongFalsely : Prop := loadOrdersRow.holds Try.pinned (OpenSpec.ofChange loadOrdersWrong)

/- THE SECOND FORM. 'bulk': how many values and letters a reading holds, each counted each time it is reached (what is shared counts as often as it is met; a slice's spare places count too). A statement '..UptoSaid' is the law's where the arguments, and the package variables that the reading takes, are together of bulk at most 1048576: NARROWER than '..Said'. Prove '..Said' where nothing that the law and all that it calls make is longer than what came in: it says more and counts as full. Else prove '..UptoSaid'. A law counts once. -/
mutual
def uptoBulk {H : Type} : DataW H → Nat
  | .lit (.string bytes) => bytes.length + 1
  | .lit _ => 1
  | .nil => 1
  | .ptr d => uptoBulk d + 1
  | .slice elems spare => uptoBulkAll elems + uptoBulkAll spare + 1
  | .agg parts => uptoBulkAll parts + 1
  | .iface _ d => uptoBulk d + 1
  | .map entries => uptoBulkEntries entries + 1
  | .held _ => 1
def uptoBulkAll {H : Type} : List (DataW H) → Nat
  | [] => 0
  | d :: r => uptoBulk d + uptoBulkAll r
def uptoBulkEntries {H : Type} : List (Lit × DataW H) → Nat
  | [] => 0
  | x :: r => uptoBulkEntry x + uptoBulkEntries r
def uptoBulkEntry {H : Type} : Lit × DataW H → Nat
  | (.string bytes, d) => bytes.length + uptoBulk d + 1
  | (_, d) => uptoBulk d + 1
 end
def uptoSmall : (H : Type) → List (DataW H) → Bool := fun _ ds => decide (uptoBulkAll ds ≤ 1048576)
def OpenSpec.upto (s : _root_.Go.ChangeSpec) : _root_.Go.OpenSpec := { _root_.Go.OpenSpec.ofChange s with cond := some uptoSmall }

/-- 'bypathlaw21.LoadDoes', WHERE WHAT IT READS IS OF BULK AT MOST 1048576: true; the input reads as it did. -/
def loadDoesUptoRow : OpenClaim := { program := "ytneablcgcdmgpaa", sum := "c0847c4a7bbfa273a5a5b01f59c5d599f0fb8de52599cb87b3cbc893c5ada2e9", func := "bypath/bypathlaw21.LoadDoes", spec := "loadDoes", unfollowed := true, recurses := true, apart := false, narrowed := true }
def LoadDoesUptoSaid : Prop := loadDoesUptoRow.holds Try.pinned (OpenSpec.upto loadDoesSpec)

/-- 'bypathlaw21.LoadProjects', WHERE WHAT IT READS IS OF BULK AT MOST 1048576: true; the input reads as it did. -/
def loadProjectsUptoRow : OpenClaim := { program := "ytneablcgcdmgpaa", sum := "c0847c4a7bbfa273a5a5b01f59c5d599f0fb8de52599cb87b3cbc893c5ada2e9", func := "bypath/bypathlaw21.LoadProjects", spec := "loadProjects", unfollowed := true, recurses := true, apart := false, narrowed := true }
def LoadProjectsUptoSaid : Prop := loadProjectsUptoRow.holds Try.pinned (OpenSpec.upto loadProjectsSpec)

/-- 'bypathlaw21.LoadSums', WHERE WHAT IT READS IS OF BULK AT MOST 1048576: true; the input reads as it did. -/
def loadSumsUptoRow : OpenClaim := { program := "ytneablcgcdmgpaa", sum := "c0847c4a7bbfa273a5a5b01f59c5d599f0fb8de52599cb87b3cbc893c5ada2e9", func := "bypath/bypathlaw21.LoadSums", spec := "loadSums", unfollowed := true, recurses := true, apart := false, narrowed := true }
def LoadSumsUptoSaid : Prop := loadSumsUptoRow.holds Try.pinned (OpenSpec.upto loadSumsSpec)

/-- 'bypathlaw21.LoadNobody', WHERE WHAT IT READS IS OF BULK AT MOST 1048576: true; the input reads as it did. -/
def loadNobodyUptoRow : OpenClaim := { program := "ytneablcgcdmgpaa", sum := "c0847c4a7bbfa273a5a5b01f59c5d599f0fb8de52599cb87b3cbc893c5ada2e9", func := "bypath/bypathlaw21.LoadNobody", spec := "loadNobody", unfollowed := true, recurses := true, apart := false, narrowed := true }
def LoadNobodyUptoSaid : Prop := loadNobodyUptoRow.holds Try.pinned (OpenSpec.upto loadNobodySpec)

/-- 'bypathlaw21.LoadOrders', WHERE WHAT IT READS IS OF BULK AT MOST 1048576: true; the input reads as it did. -/
def loadOrdersUptoRow : OpenClaim := { program := "ytneablcgcdmgpaa", sum := "c0847c4a7bbfa273a5a5b01f59c5d599f0fb8de52599cb87b3cbc893c5ada2e9", func := "bypath/bypathlaw21.LoadOrders", spec := "loadOrders", unfollowed := true, recurses := true, apart := false, narrowed := true }
def LoadOrdersUptoSaid : Prop := loadOrdersUptoRow.holds Try.pinned (OpenSpec.upto loadOrdersSpec)

end Rows
end Go.Proofs.Ytneablcgcdmgpaa
