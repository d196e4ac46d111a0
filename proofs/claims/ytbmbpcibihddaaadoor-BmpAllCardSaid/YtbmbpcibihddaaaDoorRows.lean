/-
  NARROWER THAN 'FOR EVERY INPUT', by the rows' own cells (each row's printed sentence says how): OpenPuts: laid · BmpPuts: laid · BmpGets: laid · BmpAll: laid.
  DERIVED. THE GIVEN ROWS OF THIS SEAT. 4 by the template 'for every input the law returns true; each argument reads behind the call as it read before'; 0 by the template 'total and deterministic' (their statements: YtbmbpcibihddaaaDoorTotals.lean).
  GIVEN WITH THE SEED: the statements are not yours to turn. If you find one false, say at which input.
  Laid BY PROGRAM, IN A SANDBOX (cutbox-rows.mjs): the forced cells as the released guide's own fill.sh prints them over the translation c4bd7848b8885016… (all of the seat's roots in one cut). By AI agents, Wed Nov 11 2026. No macro, syntax, notation, axiom, sorry.
-/
import Derived.Test.YtbmbpcibihddaaaDoorChecked
import GoSem.Claim
import GoSem.ClaimJoined
import GoSem.ClaimMapViews
import Derived.JoinedTies
import Derived.KernelRfl
namespace Go.Proofs.YtbmbpcibihddaaaDoor
/- THE CELL 'sum', in the pinned program and in every row, IS THE sha256 OF THE DUMP (.gsa) THAT YtbmbpcibihddaaaDoorProg.lean LOADS. Nothing in Lean hashes anything: it is a label: what it is worth is what the hold of that sum in a sandbox is worth. -/
noncomputable def Tryd.pinned : Pinned := { name := "ytbmbpcibihddaaadoor", sum := "c4bd7848b8885016ae5299f7ea47de3a5123a6f3cad0404843cd08c17abffc7c", checked := Tryd.checked }
namespace Rows
def none {H : Type} : Left H := { results := [], args := [] }

/- WHAT THE LISTED PACKAGE-LEVEL VARIABLES READ AS WHEN THE CALL BEGINS. Each datum BY PROGRAM (the guide's laid-datum.mjs) off the statement by which the dump's own 'gosem.cut.vars' lays the variable. In a bare row this is a premise. The card (YtbmbpcibihddaaaDoorCards.lean) ties it to the program's text. -/
def laid_bypath_frame_least {H : Type} : DataW H := .agg [.lit (.int .i64 0), .lit (.int .i64 29), .lit (.int .i64 23), .lit (.int .i64 21), .lit (.int .i64 19)]

/-- 'bypathlaw04.OpenPuts': WHATEVER THE INPUT: true; the input reads as it did. -/
def openPutsSpec : ChangeSpec := { name := "openPuts", fn := fun _ => fun
  | [d] => { results := [.lit (.bool true)], args := [d] }
  | _ => none }
def openPutsRow : OpenClaim := { program := "ytbmbpcibihddaaadoor", sum := "c4bd7848b8885016ae5299f7ea47de3a5123a6f3cad0404843cd08c17abffc7c", func := "bypath/bypathlaw04.OpenPuts", spec := "openPuts", unfollowed := true, recurses := true, named := ["bypath/frame.least"], apart := false, laid := [("bypath/frame.least", laid_bypath_frame_least)] }
def OpenPutsSaid : Prop := openPutsRow.holds Tryd.pinned (OpenSpec.ofChange openPutsSpec)

/-- ITS FALSE NEIGHBOUR: 'it returns false'. Refute it at one input. -/
def openPutsWrong : ChangeSpec := { name := "openPuts", fn := fun _ => fun
  | [d] => { results := [.lit (.bool false)], args := [d] }
  | _ => none }
def OpenPutsWrongFalsely : Prop := openPutsRow.holds Tryd.pinned (OpenSpec.ofChange openPutsWrong)

/-- 'bypathlaw36.BmpPuts': WHATEVER THE INPUT: true; the input reads as it did. -/
def bmpPutsSpec : ChangeSpec := { name := "bmpPuts", fn := fun _ => fun
  | [d1, d2] => { results := [.lit (.bool true)], args := [d1, d2] }
  | _ => none }
def bmpPutsRow : OpenClaim := { program := "ytbmbpcibihddaaadoor", sum := "c4bd7848b8885016ae5299f7ea47de3a5123a6f3cad0404843cd08c17abffc7c", func := "bypath/bypathlaw36.BmpPuts", spec := "bmpPuts", unfollowed := true, recurses := true, named := ["bypath/frame.least"], apart := false, laid := [("bypath/frame.least", laid_bypath_frame_least)] }
def BmpPutsSaid : Prop := bmpPutsRow.holds Tryd.pinned (OpenSpec.ofChange bmpPutsSpec)

/-- ITS FALSE NEIGHBOUR: 'it returns false'. Refute it at one input. -/
def bmpPutsWrong : ChangeSpec := { name := "bmpPuts", fn := fun _ => fun
  | [d1, d2] => { results := [.lit (.bool false)], args := [d1, d2] }
  | _ => none }
def BmpPutsWrongFalsely : Prop := bmpPutsRow.holds Tryd.pinned (OpenSpec.ofChange bmpPutsWrong)

/-- 'bypathlaw36.BmpGets': WHATEVER THE INPUT: true; the input reads as it did. -/
def bmpGetsSpec : ChangeSpec := { name := "bmpGets", fn := fun _ => fun
  | [d1, d2] => { results := [.lit (.bool true)], args := [d1, d2] }
  | _ => none }
def bmpGetsRow : OpenClaim := { program := "ytbmbpcibihddaaadoor", sum := "c4bd7848b8885016ae5299f7ea47de3a5123a6f3cad0404843cd08c17abffc7c", func := "bypath/bypathlaw36.BmpGets", spec := "bmpGets", unfollowed := true, recurses := true, named := ["bypath/frame.least"], apart := false, laid := [("bypath/frame.least", laid_bypath_frame_least)] }
def BmpGetsSaid : Prop := bmpGetsRow.holds Tryd.pinned (OpenSpec.ofChange bmpGetsSpec)

/-- ITS FALSE NEIGHBOUR: 'it returns false'. Refute it at one input. -/
def bmpGetsWrong : ChangeSpec := { name := "bmpGets", fn := fun _ => fun
  | [d1, d2] => { results := [.lit (.bool false)], args := [d1, d2] }
  | _ => none }
def BmpGetsWrongFalsely : Prop := bmpGetsRow.holds Tryd.pinned (OpenSpec.ofChange bmpGetsWrong)

/-- 'bypathlaw36.BmpAll': WHATEVER THE INPUT: true; the input reads as it did. -/
def bmpAllSpec : ChangeSpec := { name := "bmpAll", fn := fun _ => fun
  | [d] => { results := [.lit (.bool true)], args := [d] }
  | _ => none }
def bmpAllRow : OpenClaim := { program := "ytbmbpcibihddaaadoor", sum := "c4bd7848b8885016ae5299f7ea47de3a5123a6f3cad0404843cd08c17abffc7c", func := "bypath/bypathlaw36.BmpAll", spec := "bmpAll", unfollowed := true, recurses := true, named := ["bypath/frame.least"], apart := false, laid := [("bypath/frame.least", laid_bypath_frame_least)] }
def BmpAllSaid : Prop := bmpAllRow.holds Tryd.pinned (OpenSpec.ofChange bmpAllSpec)

/-- ITS FALSE NEIGHBOUR: 'it returns false'. Refute it at one input. -/
def bmpAllWrong : ChangeSpec := { name := "bmpAll", fn := fun _ => fun
  | [d] => { results := [.lit (.bool false)], args := [d] }
  | _ => none }
def BmpAllWrongFalsely : Prop := bmpAllRow.holds Tryd.pinned (OpenSpec.ofChange bmpAllWrong)

/- THE SECOND FORM. 'bulk': how many values and letters a reading holds, each counted each time it is reached (what is shared counts as often as it is met; a slice's spare places count too). A statement '..UptoSaid' is the law's where the arguments, and the package variables that the reading takes, are together of bulk at most 1048576: NARROWER than '..Said'. Prove '..Said' where nothing that the law and all that it calls make is longer than what came in: it says more and counts as full. Else prove '..UptoSaid'. A law counts once. -/
mutual
def uptoBulk {H : Type} : DataW H → Nat
  | .lit (.string bytes) => bytes.length + 1
  | .lit _ => 1
  | .nil => 1
  | .ptr d => uptoBulk d + 1
  | .slice elems spare => uptoBulkAll elems + uptoBulkAll spare + 1
  | .agg parts => uptoBulkAll parts + 1
  | .iface _ d => uptoBulk d + 1
  | .map entries => uptoBulkEntries entries + 1
  | .held _ => 1
def uptoBulkAll {H : Type} : List (DataW H) → Nat
  | [] => 0
  | d :: r => uptoBulk d + uptoBulkAll r
def uptoBulkEntries {H : Type} : List (Lit × DataW H) → Nat
  | [] => 0
  | x :: r => uptoBulkEntry x + uptoBulkEntries r
def uptoBulkEntry {H : Type} : Lit × DataW H → Nat
  | (.string bytes, d) => bytes.length + uptoBulk d + 1
  | (_, d) => uptoBulk d + 1
 end
def uptoSmall : (H : Type) → List (DataW H) → Bool := fun _ ds => decide (uptoBulkAll ds ≤ 1048576)
def OpenSpec.upto (s : _root_.Go.ChangeSpec) : _root_.Go.OpenSpec := { _root_.Go.OpenSpec.ofChange s with cond := some uptoSmall }

/-- 'bypathlaw04.OpenPuts', WHERE WHAT IT READS IS OF BULK AT MOST 1048576: true; the input reads as it did. -/
def openPutsUptoRow : OpenClaim := { program := "ytbmbpcibihddaaadoor", sum := "c4bd7848b8885016ae5299f7ea47de3a5123a6f3cad0404843cd08c17abffc7c", func := "bypath/bypathlaw04.OpenPuts", spec := "openPuts", unfollowed := true, recurses := true, named := ["bypath/frame.least"], apart := false, laid := [("bypath/frame.least", laid_bypath_frame_least)], narrowed := true }
def OpenPutsUptoSaid : Prop := openPutsUptoRow.holds Tryd.pinned (OpenSpec.upto openPutsSpec)

/-- 'bypathlaw36.BmpPuts', WHERE WHAT IT READS IS OF BULK AT MOST 1048576: true; the input reads as it did. -/
def bmpPutsUptoRow : OpenClaim := { program := "ytbmbpcibihddaaadoor", sum := "c4bd7848b8885016ae5299f7ea47de3a5123a6f3cad0404843cd08c17abffc7c", func := "bypath/bypathlaw36.BmpPuts", spec := "bmpPuts", unfollowed := true, recurses := true, named := ["bypath/frame.least"], apart := false, laid := [("bypath/frame.least", laid_bypath_frame_least)], narrowed := true }
def BmpPutsUptoSaid : Prop := bmpPutsUptoRow.holds Tryd.pinned (OpenSpec.upto bmpPutsSpec)

/-- 'bypathlaw36.BmpGets', WHERE WHAT IT READS IS OF BULK AT MOST 1048576: true; the input reads as it did. -/
def bmpGetsUptoRow : OpenClaim := { program := "ytbmbpcibihddaaadoor", sum := "c4bd7848b8885016ae5299f7ea47de3a5123a6f3cad0404843cd08c17abffc7c", func := "bypath/bypathlaw36.BmpGets", spec := "bmpGets", unfollowed := true, recurses := true, named := ["bypath/frame.least"], apart := false, laid := [("bypath/frame.least", laid_bypath_frame_least)], narrowed := true }
def BmpGetsUptoSaid : Prop := bmpGetsUptoRow.holds Tryd.pinned (OpenSpec.upto bmpGetsSpec)

/-- 'bypathlaw36.BmpAll', WHERE WHAT IT READS IS OF BULK AT MOST 1048576: true; the input reads as it did. -/
def bmpAllUptoRow : OpenClaim := { program := "ytbmbpcibihddaaadoor", sum := "c4bd7848b8885016ae5299f7ea47de3a5123a6f3cad0404843cd08c17abffc7c", func := "bypath/bypathlaw36.BmpAll", spec := "bmpAll", unfollowed := true, recurses := true, named := ["bypath/frame.least"], apart := false, laid := [("bypath/frame.least", laid_bypath_frame_least)], narrowed := true }
def BmpAllUptoSaid : Prop := bmpAllUptoRow.holds Tryd.pinned (OpenSpec.upto bmpAllSpec)

end Rows
end Go.Proofs.YtbmbpcibihddaaaDoor
