/-
  NARROWER THAN 'FOR EVERY INPUT', by the rows' own cells (each row's printed sentence says how): FlowMosts: laid · FlowCuts: laid · FlowRises: laid · FramePuts: laid · FrameHeads: laid · FrameBack: laid · FrameFull: laid · FrameTells: laid · OpenPuts: laid · BmpPuts: laid · BmpGets: laid · BmpAll: laid · NoteGets: laid · NoteSames: laid · NotePuts: laid.
  DERIVED. THE GIVEN ROWS OF THIS SEAT. 15 by the template 'for every input the law returns true; each argument reads behind the call as it read before'; 0 by the template 'total and deterministic' (their statements: YteokhnkipandbaaDoorTotals.lean).
  GIVEN WITH THE SEED: the statements are not yours to turn. If you find one false, say at which input.
  Laid BY PROGRAM, IN A SANDBOX (cutbox-rows.mjs): the forced cells as the released guide's own fill.sh prints them over the translation cc88335ee4fbf40b… (all of the seat's roots in one cut). By AI agents, Wed Nov 11 2026. No macro, syntax, notation, axiom, sorry.
-/
import Derived.Test.YteokhnkipandbaaDoorChecked
import GoSem.Claim
import GoSem.ClaimJoined
import GoSem.ClaimMapViews
import Derived.JoinedTies
import Derived.KernelRfl
namespace Go.Proofs.YteokhnkipandbaaDoor
/- THE CELL 'sum', in the pinned program and in every row, IS THE sha256 OF THE DUMP (.gsa) THAT YteokhnkipandbaaDoorProg.lean LOADS. Nothing in Lean hashes anything: it is a label: what it is worth is what the hold of that sum in a sandbox is worth. -/
noncomputable def Tryd.pinned : Pinned := { name := "yteokhnkipandbaadoor", sum := "cc88335ee4fbf40b2219156130e0e848119c3be1f1d5b616a3ffd2f1b3a2e609", checked := Tryd.checked }
namespace Rows
def none {H : Type} : Left H := { results := [], args := [] }

/- WHAT THE LISTED PACKAGE-LEVEL VARIABLES READ AS WHEN THE CALL BEGINS. Each datum BY PROGRAM (the guide's laid-datum.mjs) off the statement by which the dump's own 'gosem.cut.vars' lays the variable. In a bare row this is a premise. The card (YteokhnkipandbaaDoorCards.lean) ties it to the program's text. -/
def laid_math_bits_deBruijn32tab {H : Type} : DataW H := .agg [.lit (.int .u8 0), .lit (.int .u8 1), .lit (.int .u8 28), .lit (.int .u8 2), .lit (.int .u8 29), .lit (.int .u8 14), .lit (.int .u8 24), .lit (.int .u8 3), .lit (.int .u8 30), .lit (.int .u8 22), .lit (.int .u8 20), .lit (.int .u8 15), .lit (.int .u8 25), .lit (.int .u8 17), .lit (.int .u8 4), .lit (.int .u8 8), .lit (.int .u8 31), .lit (.int .u8 27), .lit (.int .u8 13), .lit (.int .u8 23), .lit (.int .u8 21), .lit (.int .u8 19), .lit (.int .u8 16), .lit (.int .u8 7), .lit (.int .u8 26), .lit (.int .u8 12), .lit (.int .u8 18), .lit (.int .u8 6), .lit (.int .u8 11), .lit (.int .u8 5), .lit (.int .u8 10), .lit (.int .u8 9)]
def laid_math_bits_deBruijn64tab {H : Type} : DataW H := .agg [.lit (.int .u8 0), .lit (.int .u8 1), .lit (.int .u8 56), .lit (.int .u8 2), .lit (.int .u8 57), .lit (.int .u8 49), .lit (.int .u8 28), .lit (.int .u8 3), .lit (.int .u8 61), .lit (.int .u8 58), .lit (.int .u8 42), .lit (.int .u8 50), .lit (.int .u8 38), .lit (.int .u8 29), .lit (.int .u8 17), .lit (.int .u8 4), .lit (.int .u8 62), .lit (.int .u8 47), .lit (.int .u8 59), .lit (.int .u8 36), .lit (.int .u8 45), .lit (.int .u8 43), .lit (.int .u8 51), .lit (.int .u8 22), .lit (.int .u8 53), .lit (.int .u8 39), .lit (.int .u8 33), .lit (.int .u8 30), .lit (.int .u8 24), .lit (.int .u8 18), .lit (.int .u8 12), .lit (.int .u8 5), .lit (.int .u8 63), .lit (.int .u8 55), .lit (.int .u8 48), .lit (.int .u8 27), .lit (.int .u8 60), .lit (.int .u8 41), .lit (.int .u8 37), .lit (.int .u8 16), .lit (.int .u8 46), .lit (.int .u8 35), .lit (.int .u8 44), .lit (.int .u8 21), .lit (.int .u8 52), .lit (.int .u8 32), .lit (.int .u8 23), .lit (.int .u8 11), .lit (.int .u8 54), .lit (.int .u8 26), .lit (.int .u8 40), .lit (.int .u8 15), .lit (.int .u8 34), .lit (.int .u8 20), .lit (.int .u8 31), .lit (.int .u8 10), .lit (.int .u8 25), .lit (.int .u8 14), .lit (.int .u8 19), .lit (.int .u8 9), .lit (.int .u8 13), .lit (.int .u8 8), .lit (.int .u8 7), .lit (.int .u8 6)]
def laid_bypath_frame_least {H : Type} : DataW H := .agg [.lit (.int .i64 0), .lit (.int .i64 29), .lit (.int .i64 23), .lit (.int .i64 21), .lit (.int .i64 19)]
def laid_internal_strconv_uint64pow10 {H : Type} : DataW H := .agg [.lit (.int .u64 1), .lit (.int .u64 10), .lit (.int .u64 100), .lit (.int .u64 1000), .lit (.int .u64 10000), .lit (.int .u64 100000), .lit (.int .u64 1000000), .lit (.int .u64 10000000), .lit (.int .u64 100000000), .lit (.int .u64 1000000000), .lit (.int .u64 10000000000), .lit (.int .u64 100000000000), .lit (.int .u64 1000000000000), .lit (.int .u64 10000000000000), .lit (.int .u64 100000000000000), .lit (.int .u64 1000000000000000), .lit (.int .u64 10000000000000000), .lit (.int .u64 100000000000000000), .lit (.int .u64 1000000000000000000), .lit (.int .u64 10000000000000000000)]
def laid_bypath_note_names {H : Type} : DataW H := .agg [.lit (.string []), .lit (.string [104, 101, 97, 100]), .lit (.string [111, 112, 101, 110]), .lit (.string [117, 112, 100, 97, 116, 101]), .lit (.string [104, 111, 108, 100]), .lit (.string [115, 116, 97, 116, 101]), .lit (.string [99, 101, 97, 115, 101])]

/-- 'bypathlaw37.FlowMosts': WHATEVER THE INPUT: true; the input reads as it did. -/
def flowMostsSpec : ChangeSpec := { name := "flowMosts", fn := fun _ => fun
  | [d1, d2] => { results := [.lit (.bool true)], args := [d1, d2] }
  | _ => none }
def flowMostsRow : OpenClaim := { program := "yteokhnkipandbaadoor", sum := "cc88335ee4fbf40b2219156130e0e848119c3be1f1d5b616a3ffd2f1b3a2e609", func := "bypath/bypathlaw37.FlowMosts", spec := "flowMosts", named := ["math/bits.deBruijn32tab", "math/bits.deBruijn64tab"], apart := false, laid := [("math/bits.deBruijn32tab", laid_math_bits_deBruijn32tab), ("math/bits.deBruijn64tab", laid_math_bits_deBruijn64tab)] }
def FlowMostsSaid : Prop := flowMostsRow.holds Tryd.pinned (OpenSpec.ofChange flowMostsSpec)

/-- ITS FALSE NEIGHBOUR: 'it returns false'. Refute it at one input. -/
def flowMostsWrong : ChangeSpec := { name := "flowMosts", fn := fun _ => fun
  | [d1, d2] => { results := [.lit (.bool false)], args := [d1, d2] }
  | _ => none }
def FlowMostsWrongFalsely : Prop := flowMostsRow.holds Tryd.pinned (OpenSpec.ofChange flowMostsWrong)

/-- 'bypathlaw37.FlowCuts': WHATEVER THE INPUT: true; the input reads as it did. -/
def flowCutsSpec : ChangeSpec := { name := "flowCuts", fn := fun _ => fun
  | [d1, d2, d3] => { results := [.lit (.bool true)], args := [d1, d2, d3] }
  | _ => none }
def flowCutsRow : OpenClaim := { program := "yteokhnkipandbaadoor", sum := "cc88335ee4fbf40b2219156130e0e848119c3be1f1d5b616a3ffd2f1b3a2e609", func := "bypath/bypathlaw37.FlowCuts", spec := "flowCuts", named := ["math/bits.deBruijn32tab", "math/bits.deBruijn64tab"], apart := false, laid := [("math/bits.deBruijn32tab", laid_math_bits_deBruijn32tab), ("math/bits.deBruijn64tab", laid_math_bits_deBruijn64tab)] }
def FlowCutsSaid : Prop := flowCutsRow.holds Tryd.pinned (OpenSpec.ofChange flowCutsSpec)

/-- ITS FALSE NEIGHBOUR: 'it returns false'. Refute it at one input. -/
def flowCutsWrong : ChangeSpec := { name := "flowCuts", fn := fun _ => fun
  | [d1, d2, d3] => { results := [.lit (.bool false)], args := [d1, d2, d3] }
  | _ => none }
def FlowCutsWrongFalsely : Prop := flowCutsRow.holds Tryd.pinned (OpenSpec.ofChange flowCutsWrong)

/-- 'bypathlaw37.FlowRises': WHATEVER THE INPUT: true; the input reads as it did. -/
def flowRisesSpec : ChangeSpec := { name := "flowRises", fn := fun _ => fun
  | [d1, d2, d3, d4, d5] => { results := [.lit (.bool true)], args := [d1, d2, d3, d4, d5] }
  | _ => none }
def flowRisesRow : OpenClaim := { program := "yteokhnkipandbaadoor", sum := "cc88335ee4fbf40b2219156130e0e848119c3be1f1d5b616a3ffd2f1b3a2e609", func := "bypath/bypathlaw37.FlowRises", spec := "flowRises", named := ["math/bits.deBruijn32tab", "math/bits.deBruijn64tab"], apart := false, laid := [("math/bits.deBruijn32tab", laid_math_bits_deBruijn32tab), ("math/bits.deBruijn64tab", laid_math_bits_deBruijn64tab)] }
def FlowRisesSaid : Prop := flowRisesRow.holds Tryd.pinned (OpenSpec.ofChange flowRisesSpec)

/-- ITS FALSE NEIGHBOUR: 'it returns false'. Refute it at one input. -/
def flowRisesWrong : ChangeSpec := { name := "flowRises", fn := fun _ => fun
  | [d1, d2, d3, d4, d5] => { results := [.lit (.bool false)], args := [d1, d2, d3, d4, d5] }
  | _ => none }
def FlowRisesWrongFalsely : Prop := flowRisesRow.holds Tryd.pinned (OpenSpec.ofChange flowRisesWrong)

/-- 'bypathlaw03.FramePuts': WHATEVER THE INPUT: true; the input reads as it did. -/
def framePutsSpec : ChangeSpec := { name := "framePuts", fn := fun _ => fun
  | [d] => { results := [.lit (.bool true)], args := [d] }
  | _ => none }
def framePutsRow : OpenClaim := { program := "yteokhnkipandbaadoor", sum := "cc88335ee4fbf40b2219156130e0e848119c3be1f1d5b616a3ffd2f1b3a2e609", func := "bypath/bypathlaw03.FramePuts", spec := "framePuts", unfollowed := true, recurses := true, named := ["bypath/frame.least"], apart := false, laid := [("bypath/frame.least", laid_bypath_frame_least)] }
def FramePutsSaid : Prop := framePutsRow.holds Tryd.pinned (OpenSpec.ofChange framePutsSpec)

/-- ITS FALSE NEIGHBOUR: 'it returns false'. Refute it at one input. -/
def framePutsWrong : ChangeSpec := { name := "framePuts", fn := fun _ => fun
  | [d] => { results := [.lit (.bool false)], args := [d] }
  | _ => none }
def FramePutsWrongFalsely : Prop := framePutsRow.holds Tryd.pinned (OpenSpec.ofChange framePutsWrong)

/-- 'bypathlaw03.FrameHeads': WHATEVER THE INPUT: true; the input reads as it did. -/
def frameHeadsSpec : ChangeSpec := { name := "frameHeads", fn := fun _ => fun
  | [d] => { results := [.lit (.bool true)], args := [d] }
  | _ => none }
def frameHeadsRow : OpenClaim := { program := "yteokhnkipandbaadoor", sum := "cc88335ee4fbf40b2219156130e0e848119c3be1f1d5b616a3ffd2f1b3a2e609", func := "bypath/bypathlaw03.FrameHeads", spec := "frameHeads", unfollowed := true, recurses := true, named := ["bypath/frame.least"], apart := false, laid := [("bypath/frame.least", laid_bypath_frame_least)] }
def FrameHeadsSaid : Prop := frameHeadsRow.holds Tryd.pinned (OpenSpec.ofChange frameHeadsSpec)

/-- ITS FALSE NEIGHBOUR: 'it returns false'. Refute it at one input. -/
def frameHeadsWrong : ChangeSpec := { name := "frameHeads", fn := fun _ => fun
  | [d] => { results := [.lit (.bool false)], args := [d] }
  | _ => none }
def FrameHeadsWrongFalsely : Prop := frameHeadsRow.holds Tryd.pinned (OpenSpec.ofChange frameHeadsWrong)

/-- 'bypathlaw03.FrameBack': WHATEVER THE INPUT: true; the input reads as it did. -/
def frameBackSpec : ChangeSpec := { name := "frameBack", fn := fun _ => fun
  | [d1, d2] => { results := [.lit (.bool true)], args := [d1, d2] }
  | _ => none }
def frameBackRow : OpenClaim := { program := "yteokhnkipandbaadoor", sum := "cc88335ee4fbf40b2219156130e0e848119c3be1f1d5b616a3ffd2f1b3a2e609", func := "bypath/bypathlaw03.FrameBack", spec := "frameBack", unfollowed := true, recurses := true, named := ["bypath/frame.least"], apart := false, laid := [("bypath/frame.least", laid_bypath_frame_least)] }
def FrameBackSaid : Prop := frameBackRow.holds Tryd.pinned (OpenSpec.ofChange frameBackSpec)

/-- ITS FALSE NEIGHBOUR: 'it returns false'. Refute it at one input. -/
def frameBackWrong : ChangeSpec := { name := "frameBack", fn := fun _ => fun
  | [d1, d2] => { results := [.lit (.bool false)], args := [d1, d2] }
  | _ => none }
def FrameBackWrongFalsely : Prop := frameBackRow.holds Tryd.pinned (OpenSpec.ofChange frameBackWrong)

/-- 'bypathlaw03.FrameFull': WHATEVER THE INPUT: true; the input reads as it did. -/
def frameFullSpec : ChangeSpec := { name := "frameFull", fn := fun _ => fun
  | [d] => { results := [.lit (.bool true)], args := [d] }
  | _ => none }
def frameFullRow : OpenClaim := { program := "yteokhnkipandbaadoor", sum := "cc88335ee4fbf40b2219156130e0e848119c3be1f1d5b616a3ffd2f1b3a2e609", func := "bypath/bypathlaw03.FrameFull", spec := "frameFull", unfollowed := true, recurses := true, named := ["bypath/frame.least"], apart := false, laid := [("bypath/frame.least", laid_bypath_frame_least)] }
def FrameFullSaid : Prop := frameFullRow.holds Tryd.pinned (OpenSpec.ofChange frameFullSpec)

/-- ITS FALSE NEIGHBOUR: 'it returns false'. Refute it at one input. -/
def frameFullWrong : ChangeSpec := { name := "frameFull", fn := fun _ => fun
  | [d] => { results := [.lit (.bool false)], args := [d] }
  | _ => none }
def FrameFullWrongFalsely : Prop := frameFullRow.holds Tryd.pinned (OpenSpec.ofChange frameFullWrong)

/-- 'bypathlaw03.FrameTells': WHATEVER THE INPUT: true; the input reads as it did. -/
def frameTellsSpec : ChangeSpec := { name := "frameTells", fn := fun _ => fun
  | [d] => { results := [.lit (.bool true)], args := [d] }
  | _ => none }
def frameTellsRow : OpenClaim := { program := "yteokhnkipandbaadoor", sum := "cc88335ee4fbf40b2219156130e0e848119c3be1f1d5b616a3ffd2f1b3a2e609", func := "bypath/bypathlaw03.FrameTells", spec := "frameTells", unfollowed := true, recurses := true, named := ["bypath/frame.least"], apart := false, laid := [("bypath/frame.least", laid_bypath_frame_least)] }
def FrameTellsSaid : Prop := frameTellsRow.holds Tryd.pinned (OpenSpec.ofChange frameTellsSpec)

/-- ITS FALSE NEIGHBOUR: 'it returns false'. Refute it at one input. -/
def frameTellsWrong : ChangeSpec := { name := "frameTells", fn := fun _ => fun
  | [d] => { results := [.lit (.bool false)], args := [d] }
  | _ => none }
def FrameTellsWrongFalsely : Prop := frameTellsRow.holds Tryd.pinned (OpenSpec.ofChange frameTellsWrong)

/-- 'bypathlaw04.OpenPuts': WHATEVER THE INPUT: true; the input reads as it did. -/
def openPutsSpec : ChangeSpec := { name := "openPuts", fn := fun _ => fun
  | [d] => { results := [.lit (.bool true)], args := [d] }
  | _ => none }
def openPutsRow : OpenClaim := { program := "yteokhnkipandbaadoor", sum := "cc88335ee4fbf40b2219156130e0e848119c3be1f1d5b616a3ffd2f1b3a2e609", func := "bypath/bypathlaw04.OpenPuts", spec := "openPuts", unfollowed := true, recurses := true, named := ["bypath/frame.least"], apart := false, laid := [("bypath/frame.least", laid_bypath_frame_least)] }
def OpenPutsSaid : Prop := openPutsRow.holds Tryd.pinned (OpenSpec.ofChange openPutsSpec)

/-- ITS FALSE NEIGHBOUR: 'it returns false'. Refute it at one input. -/
def openPutsWrong : ChangeSpec := { name := "openPuts", fn := fun _ => fun
  | [d] => { results := [.lit (.bool false)], args := [d] }
  | _ => none }
def OpenPutsWrongFalsely : Prop := openPutsRow.holds Tryd.pinned (OpenSpec.ofChange openPutsWrong)

/-- 'bypathlaw36.BmpPuts': WHATEVER THE INPUT: true; the input reads as it did. -/
def bmpPutsSpec : ChangeSpec := { name := "bmpPuts", fn := fun _ => fun
  | [d1, d2] => { results := [.lit (.bool true)], args := [d1, d2] }
  | _ => none }
def bmpPutsRow : OpenClaim := { program := "yteokhnkipandbaadoor", sum := "cc88335ee4fbf40b2219156130e0e848119c3be1f1d5b616a3ffd2f1b3a2e609", func := "bypath/bypathlaw36.BmpPuts", spec := "bmpPuts", unfollowed := true, recurses := true, named := ["bypath/frame.least"], apart := false, laid := [("bypath/frame.least", laid_bypath_frame_least)] }
def BmpPutsSaid : Prop := bmpPutsRow.holds Tryd.pinned (OpenSpec.ofChange bmpPutsSpec)

/-- ITS FALSE NEIGHBOUR: 'it returns false'. Refute it at one input. -/
def bmpPutsWrong : ChangeSpec := { name := "bmpPuts", fn := fun _ => fun
  | [d1, d2] => { results := [.lit (.bool false)], args := [d1, d2] }
  | _ => none }
def BmpPutsWrongFalsely : Prop := bmpPutsRow.holds Tryd.pinned (OpenSpec.ofChange bmpPutsWrong)

/-- 'bypathlaw36.BmpGets': WHATEVER THE INPUT: true; the input reads as it did. -/
def bmpGetsSpec : ChangeSpec := { name := "bmpGets", fn := fun _ => fun
  | [d1, d2] => { results := [.lit (.bool true)], args := [d1, d2] }
  | _ => none }
def bmpGetsRow : OpenClaim := { program := "yteokhnkipandbaadoor", sum := "cc88335ee4fbf40b2219156130e0e848119c3be1f1d5b616a3ffd2f1b3a2e609", func := "bypath/bypathlaw36.BmpGets", spec := "bmpGets", unfollowed := true, recurses := true, named := ["bypath/frame.least"], apart := false, laid := [("bypath/frame.least", laid_bypath_frame_least)] }
def BmpGetsSaid : Prop := bmpGetsRow.holds Tryd.pinned (OpenSpec.ofChange bmpGetsSpec)

/-- ITS FALSE NEIGHBOUR: 'it returns false'. Refute it at one input. -/
def bmpGetsWrong : ChangeSpec := { name := "bmpGets", fn := fun _ => fun
  | [d1, d2] => { results := [.lit (.bool false)], args := [d1, d2] }
  | _ => none }
def BmpGetsWrongFalsely : Prop := bmpGetsRow.holds Tryd.pinned (OpenSpec.ofChange bmpGetsWrong)

/-- 'bypathlaw36.BmpAll': WHATEVER THE INPUT: true; the input reads as it did. -/
def bmpAllSpec : ChangeSpec := { name := "bmpAll", fn := fun _ => fun
  | [d] => { results := [.lit (.bool true)], args := [d] }
  | _ => none }
def bmpAllRow : OpenClaim := { program := "yteokhnkipandbaadoor", sum := "cc88335ee4fbf40b2219156130e0e848119c3be1f1d5b616a3ffd2f1b3a2e609", func := "bypath/bypathlaw36.BmpAll", spec := "bmpAll", unfollowed := true, recurses := true, named := ["bypath/frame.least"], apart := false, laid := [("bypath/frame.least", laid_bypath_frame_least)] }
def BmpAllSaid : Prop := bmpAllRow.holds Tryd.pinned (OpenSpec.ofChange bmpAllSpec)

/-- ITS FALSE NEIGHBOUR: 'it returns false'. Refute it at one input. -/
def bmpAllWrong : ChangeSpec := { name := "bmpAll", fn := fun _ => fun
  | [d] => { results := [.lit (.bool false)], args := [d] }
  | _ => none }
def BmpAllWrongFalsely : Prop := bmpAllRow.holds Tryd.pinned (OpenSpec.ofChange bmpAllWrong)

/-- 'bypathlaw08.NoteGets': WHATEVER THE INPUT: true; the input reads as it did. -/
def noteGetsSpec : ChangeSpec := { name := "noteGets", fn := fun _ => fun
  | [d] => { results := [.lit (.bool true)], args := [d] }
  | _ => none }
def noteGetsRow : OpenClaim := { program := "yteokhnkipandbaadoor", sum := "cc88335ee4fbf40b2219156130e0e848119c3be1f1d5b616a3ffd2f1b3a2e609", func := "bypath/bypathlaw08.NoteGets", spec := "noteGets", named := ["bypath/note.names", "internal/strconv.uint64pow10", "math/bits.deBruijn32tab", "math/bits.deBruijn64tab"], apart := false, laid := [("math/bits.deBruijn32tab", laid_math_bits_deBruijn32tab), ("math/bits.deBruijn64tab", laid_math_bits_deBruijn64tab), ("internal/strconv.uint64pow10", laid_internal_strconv_uint64pow10), ("bypath/note.names", laid_bypath_note_names)] }
def NoteGetsSaid : Prop := noteGetsRow.holds Tryd.pinned (OpenSpec.ofChange noteGetsSpec)

/-- ITS FALSE NEIGHBOUR: 'it returns false'. Refute it at one input. -/
def noteGetsWrong : ChangeSpec := { name := "noteGets", fn := fun _ => fun
  | [d] => { results := [.lit (.bool false)], args := [d] }
  | _ => none }
def NoteGetsWrongFalsely : Prop := noteGetsRow.holds Tryd.pinned (OpenSpec.ofChange noteGetsWrong)

/-- 'bypathlaw08.NoteSames': WHATEVER THE INPUT: true; the input reads as it did. -/
def noteSamesSpec : ChangeSpec := { name := "noteSames", fn := fun _ => fun
  | [d1, d2] => { results := [.lit (.bool true)], args := [d1, d2] }
  | _ => none }
def noteSamesRow : OpenClaim := { program := "yteokhnkipandbaadoor", sum := "cc88335ee4fbf40b2219156130e0e848119c3be1f1d5b616a3ffd2f1b3a2e609", func := "bypath/bypathlaw08.NoteSames", spec := "noteSames", named := ["bypath/note.names", "internal/strconv.uint64pow10", "math/bits.deBruijn32tab", "math/bits.deBruijn64tab"], apart := false, laid := [("math/bits.deBruijn32tab", laid_math_bits_deBruijn32tab), ("math/bits.deBruijn64tab", laid_math_bits_deBruijn64tab), ("internal/strconv.uint64pow10", laid_internal_strconv_uint64pow10), ("bypath/note.names", laid_bypath_note_names)] }
def NoteSamesSaid : Prop := noteSamesRow.holds Tryd.pinned (OpenSpec.ofChange noteSamesSpec)

/-- ITS FALSE NEIGHBOUR: 'it returns false'. Refute it at one input. -/
def noteSamesWrong : ChangeSpec := { name := "noteSames", fn := fun _ => fun
  | [d1, d2] => { results := [.lit (.bool false)], args := [d1, d2] }
  | _ => none }
def NoteSamesWrongFalsely : Prop := noteSamesRow.holds Tryd.pinned (OpenSpec.ofChange noteSamesWrong)

/-- 'bypathlaw08.NotePuts': WHATEVER THE INPUT: true; the input reads as it did. -/
def notePutsSpec : ChangeSpec := { name := "notePuts", fn := fun _ => fun
  | [d] => { results := [.lit (.bool true)], args := [d] }
  | _ => none }
def notePutsRow : OpenClaim := { program := "yteokhnkipandbaadoor", sum := "cc88335ee4fbf40b2219156130e0e848119c3be1f1d5b616a3ffd2f1b3a2e609", func := "bypath/bypathlaw08.NotePuts", spec := "notePuts", named := ["bypath/note.names", "internal/strconv.uint64pow10", "math/bits.deBruijn32tab", "math/bits.deBruijn64tab", "bypath/frame.least"], apart := false, laid := [("math/bits.deBruijn32tab", laid_math_bits_deBruijn32tab), ("math/bits.deBruijn64tab", laid_math_bits_deBruijn64tab), ("internal/strconv.uint64pow10", laid_internal_strconv_uint64pow10), ("bypath/frame.least", laid_bypath_frame_least), ("bypath/note.names", laid_bypath_note_names)] }
def NotePutsSaid : Prop := notePutsRow.holds Tryd.pinned (OpenSpec.ofChange notePutsSpec)

/-- ITS FALSE NEIGHBOUR: 'it returns false'. Refute it at one input. -/
def notePutsWrong : ChangeSpec := { name := "notePuts", fn := fun _ => fun
  | [d] => { results := [.lit (.bool false)], args := [d] }
  | _ => none }
def NotePutsWrongFalsely : Prop := notePutsRow.holds Tryd.pinned (OpenSpec.ofChange notePutsWrong)

/- THE SECOND FORM. 'bulk': how many values and letters a reading holds, each counted each time it is reached (what is shared counts as often as it is met; a slice's spare places count too). A statement '..UptoSaid' is the law's where the arguments, and the package variables that the reading takes, are together of bulk at most 1048576: NARROWER than '..Said'. Prove '..Said' where nothing that the law and all that it calls make is longer than what came in: it says more and counts as full. Else prove '..UptoSaid'. A law counts once. -/
mutual
def uptoBulk {H : Type} : DataW H → Nat
  | .lit (.string bytes) => bytes.length + 1
  | .lit _ => 1
  | .nil => 1
  | .ptr d => uptoBulk d + 1
  | .slice elems spare => uptoBulkAll elems + uptoBulkAll spare + 1
  | .agg parts => uptoBulkAll parts + 1
  | .iface _ d => uptoBulk d + 1
  | .map entries => uptoBulkEntries entries + 1
  | .held _ => 1
def uptoBulkAll {H : Type} : List (DataW H) → Nat
  | [] => 0
  | d :: r => uptoBulk d + uptoBulkAll r
def uptoBulkEntries {H : Type} : List (Lit × DataW H) → Nat
  | [] => 0
  | x :: r => uptoBulkEntry x + uptoBulkEntries r
def uptoBulkEntry {H : Type} : Lit × DataW H → Nat
  | (.string bytes, d) => bytes.length + uptoBulk d + 1
  | (_, d) => uptoBulk d + 1
 end
def uptoSmall : (H : Type) → List (DataW H) → Bool := fun _ ds => decide (uptoBulkAll ds ≤ 1048576)
def OpenSpec.upto (s : _root_.Go.ChangeSpec) : _root_.Go.OpenSpec := { _root_.Go.OpenSpec.ofChange s with cond := some uptoSmall }

/-- 'bypathlaw37.FlowMosts', WHERE WHAT IT READS IS OF BULK AT MOST 1048576: true; the input reads as it did. -/
def flowMostsUptoRow : OpenClaim := { program := "yteokhnkipandbaadoor", sum := "cc88335ee4fbf40b2219156130e0e848119c3be1f1d5b616a3ffd2f1b3a2e609", func := "bypath/bypathlaw37.FlowMosts", spec := "flowMosts", named := ["math/bits.deBruijn32tab", "math/bits.deBruijn64tab"], apart := false, laid := [("math/bits.deBruijn32tab", laid_math_bits_deBruijn32tab), ("math/bits.deBruijn64tab", laid_math_bits_deBruijn64tab)], narrowed := true }
def FlowMostsUptoSaid : Prop := flowMostsUptoRow.holds Tryd.pinned (OpenSpec.upto flowMostsSpec)

/-- 'bypathlaw37.FlowCuts', WHERE WHAT IT READS IS OF BULK AT MOST 1048576: true; the input reads as it did. -/
def flowCutsUptoRow : OpenClaim := { program := "yteokhnkipandbaadoor", sum := "cc88335ee4fbf40b2219156130e0e848119c3be1f1d5b616a3ffd2f1b3a2e609", func := "bypath/bypathlaw37.FlowCuts", spec := "flowCuts", named := ["math/bits.deBruijn32tab", "math/bits.deBruijn64tab"], apart := false, laid := [("math/bits.deBruijn32tab", laid_math_bits_deBruijn32tab), ("math/bits.deBruijn64tab", laid_math_bits_deBruijn64tab)], narrowed := true }
def FlowCutsUptoSaid : Prop := flowCutsUptoRow.holds Tryd.pinned (OpenSpec.upto flowCutsSpec)

/-- 'bypathlaw37.FlowRises', WHERE WHAT IT READS IS OF BULK AT MOST 1048576: true; the input reads as it did. -/
def flowRisesUptoRow : OpenClaim := { program := "yteokhnkipandbaadoor", sum := "cc88335ee4fbf40b2219156130e0e848119c3be1f1d5b616a3ffd2f1b3a2e609", func := "bypath/bypathlaw37.FlowRises", spec := "flowRises", named := ["math/bits.deBruijn32tab", "math/bits.deBruijn64tab"], apart := false, laid := [("math/bits.deBruijn32tab", laid_math_bits_deBruijn32tab), ("math/bits.deBruijn64tab", laid_math_bits_deBruijn64tab)], narrowed := true }
def FlowRisesUptoSaid : Prop := flowRisesUptoRow.holds Tryd.pinned (OpenSpec.upto flowRisesSpec)

/-- 'bypathlaw03.FramePuts', WHERE WHAT IT READS IS OF BULK AT MOST 1048576: true; the input reads as it did. -/
def framePutsUptoRow : OpenClaim := { program := "yteokhnkipandbaadoor", sum := "cc88335ee4fbf40b2219156130e0e848119c3be1f1d5b616a3ffd2f1b3a2e609", func := "bypath/bypathlaw03.FramePuts", spec := "framePuts", unfollowed := true, recurses := true, named := ["bypath/frame.least"], apart := false, laid := [("bypath/frame.least", laid_bypath_frame_least)], narrowed := true }
def FramePutsUptoSaid : Prop := framePutsUptoRow.holds Tryd.pinned (OpenSpec.upto framePutsSpec)

/-- 'bypathlaw03.FrameHeads', WHERE WHAT IT READS IS OF BULK AT MOST 1048576: true; the input reads as it did. -/
def frameHeadsUptoRow : OpenClaim := { program := "yteokhnkipandbaadoor", sum := "cc88335ee4fbf40b2219156130e0e848119c3be1f1d5b616a3ffd2f1b3a2e609", func := "bypath/bypathlaw03.FrameHeads", spec := "frameHeads", unfollowed := true, recurses := true, named := ["bypath/frame.least"], apart := false, laid := [("bypath/frame.least", laid_bypath_frame_least)], narrowed := true }
def FrameHeadsUptoSaid : Prop := frameHeadsUptoRow.holds Tryd.pinned (OpenSpec.upto frameHeadsSpec)

/-- 'bypathlaw03.FrameBack', WHERE WHAT IT READS IS OF BULK AT MOST 1048576: true; the input reads as it did. -/
def frameBackUptoRow : OpenClaim := { program := "yteokhnkipandbaadoor", sum := "cc88335ee4fbf40b2219156130e0e848119c3be1f1d5b616a3ffd2f1b3a2e609", func := "bypath/bypathlaw03.FrameBack", spec := "frameBack", unfollowed := true, recurses := true, named := ["bypath/frame.least"], apart := false, laid := [("bypath/frame.least", laid_bypath_frame_least)], narrowed := true }
def FrameBackUptoSaid : Prop := frameBackUptoRow.holds Tryd.pinned (OpenSpec.upto frameBackSpec)

/-- 'bypathlaw03.FrameFull', WHERE WHAT IT READS IS OF BULK AT MOST 1048576: true; the input reads as it did. -/
def frameFullUptoRow : OpenClaim := { program := "yteokhnkipandbaadoor", sum := "cc88335ee4fbf40b2219156130e0e848119c3be1f1d5b616a3ffd2f1b3a2e609", func := "bypath/bypathlaw03.FrameFull", spec := "frameFull", unfollowed := true, recurses := true, named := ["bypath/frame.least"], apart := false, laid := [("bypath/frame.least", laid_bypath_frame_least)], narrowed := true }
def FrameFullUptoSaid : Prop := frameFullUptoRow.holds Tryd.pinned (OpenSpec.upto frameFullSpec)

/-- 'bypathlaw03.FrameTells', WHERE WHAT IT READS IS OF BULK AT MOST 1048576: true; the input reads as it did. -/
def frameTellsUptoRow : OpenClaim := { program := "yteokhnkipandbaadoor", sum := "cc88335ee4fbf40b2219156130e0e848119c3be1f1d5b616a3ffd2f1b3a2e609", func := "bypath/bypathlaw03.FrameTells", spec := "frameTells", unfollowed := true, recurses := true, named := ["bypath/frame.least"], apart := false, laid := [("bypath/frame.least", laid_bypath_frame_least)], narrowed := true }
def FrameTellsUptoSaid : Prop := frameTellsUptoRow.holds Tryd.pinned (OpenSpec.upto frameTellsSpec)

/-- 'bypathlaw04.OpenPuts', WHERE WHAT IT READS IS OF BULK AT MOST 1048576: true; the input reads as it did. -/
def openPutsUptoRow : OpenClaim := { program := "yteokhnkipandbaadoor", sum := "cc88335ee4fbf40b2219156130e0e848119c3be1f1d5b616a3ffd2f1b3a2e609", func := "bypath/bypathlaw04.OpenPuts", spec := "openPuts", unfollowed := true, recurses := true, named := ["bypath/frame.least"], apart := false, laid := [("bypath/frame.least", laid_bypath_frame_least)], narrowed := true }
def OpenPutsUptoSaid : Prop := openPutsUptoRow.holds Tryd.pinned (OpenSpec.upto openPutsSpec)

/-- 'bypathlaw36.BmpPuts', WHERE WHAT IT READS IS OF BULK AT MOST 1048576: true; the input reads as it did. -/
def bmpPutsUptoRow : OpenClaim := { program := "yteokhnkipandbaadoor", sum := "cc88335ee4fbf40b2219156130e0e848119c3be1f1d5b616a3ffd2f1b3a2e609", func := "bypath/bypathlaw36.BmpPuts", spec := "bmpPuts", unfollowed := true, recurses := true, named := ["bypath/frame.least"], apart := false, laid := [("bypath/frame.least", laid_bypath_frame_least)], narrowed := true }
def BmpPutsUptoSaid : Prop := bmpPutsUptoRow.holds Tryd.pinned (OpenSpec.upto bmpPutsSpec)

/-- 'bypathlaw36.BmpGets', WHERE WHAT IT READS IS OF BULK AT MOST 1048576: true; the input reads as it did. -/
def bmpGetsUptoRow : OpenClaim := { program := "yteokhnkipandbaadoor", sum := "cc88335ee4fbf40b2219156130e0e848119c3be1f1d5b616a3ffd2f1b3a2e609", func := "bypath/bypathlaw36.BmpGets", spec := "bmpGets", unfollowed := true, recurses := true, named := ["bypath/frame.least"], apart := false, laid := [("bypath/frame.least", laid_bypath_frame_least)], narrowed := true }
def BmpGetsUptoSaid : Prop := bmpGetsUptoRow.holds Tryd.pinned (OpenSpec.upto bmpGetsSpec)

/-- 'bypathlaw36.BmpAll', WHERE WHAT IT READS IS OF BULK AT MOST 1048576: true; the input reads as it did. -/
def bmpAllUptoRow : OpenClaim := { program := "yteokhnkipandbaadoor", sum := "cc88335ee4fbf40b2219156130e0e848119c3be1f1d5b616a3ffd2f1b3a2e609", func := "bypath/bypathlaw36.BmpAll", spec := "bmpAll", unfollowed := true, recurses := true, named := ["bypath/frame.least"], apart := false, laid := [("bypath/frame.least", laid_bypath_frame_least)], narrowed := true }
def BmpAllUptoSaid : Prop := bmpAllUptoRow.holds Tryd.pinned (OpenSpec.upto bmpAllSpec)

/-- 'bypathlaw08.NoteGets', WHERE WHAT IT READS IS OF BULK AT MOST 1048576: true; the input reads as it did. -/
def noteGetsUptoRow : OpenClaim := { program := "yteokhnkipandbaadoor", sum := "cc88335ee4fbf40b2219156130e0e848119c3be1f1d5b616a3ffd2f1b3a2e609", func := "bypath/bypathlaw08.NoteGets", spec := "noteGets", named := ["bypath/note.names", "internal/strconv.uint64pow10", "math/bits.deBruijn32tab", "math/bits.deBruijn64tab"], apart := false, laid := [("math/bits.deBruijn32tab", laid_math_bits_deBruijn32tab), ("math/bits.deBruijn64tab", laid_math_bits_deBruijn64tab), ("internal/strconv.uint64pow10", laid_internal_strconv_uint64pow10), ("bypath/note.names", laid_bypath_note_names)], narrowed := true }
def NoteGetsUptoSaid : Prop := noteGetsUptoRow.holds Tryd.pinned (OpenSpec.upto noteGetsSpec)

/-- 'bypathlaw08.NoteSames', WHERE WHAT IT READS IS OF BULK AT MOST 1048576: true; the input reads as it did. -/
def noteSamesUptoRow : OpenClaim := { program := "yteokhnkipandbaadoor", sum := "cc88335ee4fbf40b2219156130e0e848119c3be1f1d5b616a3ffd2f1b3a2e609", func := "bypath/bypathlaw08.NoteSames", spec := "noteSames", named := ["bypath/note.names", "internal/strconv.uint64pow10", "math/bits.deBruijn32tab", "math/bits.deBruijn64tab"], apart := false, laid := [("math/bits.deBruijn32tab", laid_math_bits_deBruijn32tab), ("math/bits.deBruijn64tab", laid_math_bits_deBruijn64tab), ("internal/strconv.uint64pow10", laid_internal_strconv_uint64pow10), ("bypath/note.names", laid_bypath_note_names)], narrowed := true }
def NoteSamesUptoSaid : Prop := noteSamesUptoRow.holds Tryd.pinned (OpenSpec.upto noteSamesSpec)

/-- 'bypathlaw08.NotePuts', WHERE WHAT IT READS IS OF BULK AT MOST 1048576: true; the input reads as it did. -/
def notePutsUptoRow : OpenClaim := { program := "yteokhnkipandbaadoor", sum := "cc88335ee4fbf40b2219156130e0e848119c3be1f1d5b616a3ffd2f1b3a2e609", func := "bypath/bypathlaw08.NotePuts", spec := "notePuts", named := ["bypath/note.names", "internal/strconv.uint64pow10", "math/bits.deBruijn32tab", "math/bits.deBruijn64tab", "bypath/frame.least"], apart := false, laid := [("math/bits.deBruijn32tab", laid_math_bits_deBruijn32tab), ("math/bits.deBruijn64tab", laid_math_bits_deBruijn64tab), ("internal/strconv.uint64pow10", laid_internal_strconv_uint64pow10), ("bypath/frame.least", laid_bypath_frame_least), ("bypath/note.names", laid_bypath_note_names)], narrowed := true }
def NotePutsUptoSaid : Prop := notePutsUptoRow.holds Tryd.pinned (OpenSpec.upto notePutsSpec)

end Rows
end Go.Proofs.YteokhnkipandbaaDoor
