/-
  A world in which the call of TopNames may begin: the two sentinels laid by hand, the program's tables by a function. No condition.
-/
import Derived.Test.YtojcehhfeleclaaGreatDoorRows
import Derived.Lay
import Derived.MakeChecks
import Derived.Handed
import Derived.LaidLaws
namespace Go.Proofs.YtojcehhfeleclaaGreatDoor.topNamesLaw
open Go
def great : List String := ["bypath/conf.words", "internal/strconv.uint64pow10", "math/bits.deBruijn32tab", "math/bits.deBruijn64tab", "unicode/utf8.first", "unicode/utf8.acceptRanges", "bypath/frame.least"]
noncomputable def emptyW (os : Os) : World := World.holding Tryz.prog os ⟨#[], #[], []⟩
/-- the sentinels -/
noncomputable def sentW (os : Os) : World :=
  { emptyW os with heap := ((((emptyW os).heap.setIfInBounds 6 (.cells #[.iface 763 (.pointer (some ⟨(emptyW os).heap.size, 0, none⟩))] 234)).setIfInBounds 7 (.cells #[.iface 763 (.pointer (some ⟨(emptyW os).heap.size + 1, 0, none⟩))] 234)).push
      (.cells #[.string ⟨#[105, 110, 118, 97, 108, 105, 100, 32, 115, 121, 110, 116, 97, 120]⟩] 765)).push (.cells #[.string ⟨#[118, 97, 108, 117, 101, 32, 111, 117, 116, 32, 111, 102, 32, 114, 97, 110, 103, 101]⟩] 765) }
noncomputable def witW (os : Os) : World := (sentW os).layVars Tryz.prog (Rows.topNamesRow.laid.filter fun x => great.contains x.1)
noncomputable def sentB (os : Os) : List Nat := [6, 7, (emptyW os).heap.size, (emptyW os).heap.size + 1]
theorem plainL (w : World) : laidMetH Tryz.prog Rows.topNamesRow.laid w = laidMet Tryz.prog Rows.topNamesRow.laid w := MakeChecks.laidMetH_plain _ _ _ (by kernel_rfl)
theorem layF (os : Os) : (sentW os).layFits Tryz.prog (Rows.topNamesRow.laid.filter fun x => great.contains x.1) (sentB os) = true := by kernel_rfl
theorem layI (os : Os) : (sentW os).layIfaces Tryz.prog (Rows.topNamesRow.laid.filter fun x => great.contains x.1) ((witW os).forCall (fun _ _ => 0) ⟨#[], #[], []⟩).memory = true := by kernel_rfl
theorem restL : (Rows.topNamesRow.laid.filter fun x => !great.contains x.1) = [("strconv.ErrSyntax", Rows.laid_strconv_ErrSyntax), ("strconv.ErrRange", Rows.laid_strconv_ErrRange)] := by kernel_rfl
theorem sent1 (os : Os) : (DataW.laidRun Tryz.prog ((witW os).forCall (fun _ _ => 0) ⟨#[], #[], []⟩).memory 8 (["strconv.ErrSyntax", "strconv.ErrRange"])).map (·.1) = some [("strconv.ErrSyntax", Rows.laid_strconv_ErrSyntax), ("strconv.ErrRange", Rows.laid_strconv_ErrRange)] := by kernel_rfl
theorem sent2 (os : Os) : (DataW.laidRun Tryz.prog ((witW os).forCall (fun _ _ => 0) ⟨#[], #[], []⟩).memory 8 (["strconv.ErrSyntax", "strconv.ErrRange"])).map (fun x => nodupB (x.2.map MemPlace.codeOf)) = some true := by kernel_rfl
theorem sent3 (os : Os) : (DataW.laidRun Tryz.prog ((witW os).forCall (fun _ _ => 0) ⟨#[], #[], []⟩).memory 8 (["strconv.ErrSyntax", "strconv.ErrRange"])).map (fun x => laidRowsB Tryz.prog ((witW os).forCall (fun _ _ => 0) ⟨#[], #[], []⟩).memory x.2) = some true := by kernel_rfl
theorem sent4 (os : Os) : (DataW.laidRun Tryz.prog ((witW os).forCall (fun _ _ => 0) ⟨#[], #[], []⟩).memory 8 (["strconv.ErrSyntax", "strconv.ErrRange"])).map (fun x => x.2.all fun p => (sentB os).contains p.block) = some true := by kernel_rfl
theorem laidW (os : Os) : laidMetH Tryz.prog Rows.topNamesRow.laid ((witW os).forCall (fun _ _ => 0) ⟨#[], #[], []⟩).memory := by
  rw [plainL]
  refine laidMet_layVars (w0 := sentW os) great (sentB os) (by simp [World.memory, World.forCall, Input.heap, witW]) (layF os) (layI os) ?_
  rw [restL]
  exact LaidIn.of_run (sentB os) 8 (sent1 os) (sent2 os) (sent3 os) (sent4 os)
theorem zipW (os : Os) : World.variablesZipB Tryz.prog ((witW os).forCall (fun _ _ => 0) ⟨#[], #[], []⟩) = true := by kernel_rfl
theorem tailW (os : Os) : (((witW os).forCall (fun _ _ => 0) ⟨#[], #[], []⟩).heap.toList.drop Tryz.prog.globals.size).take ((begin Tryz.prog (fun _ _ => 0) default).world.heap.size - Tryz.prog.globals.size) = (begin Tryz.prog (fun _ _ => 0) default).world.heap.toList.drop Tryz.prog.globals.size := by kernel_rfl
theorem wideW (os : Os) : Input.okWideB Tryz.prog ((witW os).forCall (fun _ _ => 0) ⟨#[], #[], []⟩) 4 ⟨#[], #[], []⟩ = true := by kernel_rfl
theorem preW (os : Os) (H : Type) (enc : TypeId × Value → H) : Rows.topNamesSpec.preB enc Tryz.prog Tryz.f4 [] false ((witW os).forCall (fun _ _ => 0) ⟨#[], #[], []⟩).memory #[] 8 = true := by kernel_rfl
theorem sizeW (os : Os) (H : Type) (enc : TypeId × Value → H) : Rows.topNamesSpec.sizedB enc Tryz.prog Tryz.f4 false ((witW os).forCall (fun _ _ => 0) ⟨#[], #[], []⟩).memory #[] 8 = true := by kernel_rfl
theorem osW (os : Os) : (witW os).os = os := World.layVars_os _ _ _
theorem witness (os : Os) (H : Type) (enc : TypeId × Value → H) : ∃ (w : World) (tape : Tape) (i : Input), w.os = os ∧ (w.forCall tape i).Shaped Tryz.prog ∧ i.vars = [] ∧ Input.okWide Tryz.prog (w.forCall tape i) .any w.heap.size 4 i ∧
    ((Rows.topNamesSpec.pre enc Tryz.prog Tryz.f4 [] false (w.forCall tape i).memory i.args ∧ laidMetH Tryz.prog Rows.topNamesRow.laid (w.forCall tape i).memory) ∧ sizedMet enc Tryz.prog Tryz.f4 (OpenSpec.ofChange Rows.topNamesSpec) false (w.forCall tape i).memory i.args) ∧ ({} : Assume).holds Tryz.prog (lone (Frame.enter Tryz.prog 4 i.args .normal) [] (w.forCall tape i)) :=
  ChangeSpec.witness_shaped (enc := enc) (C := Tryz.checked) (os := os) (X := fun w _ => laidMetH Tryz.prog Rows.topNamesRow.laid w) false (witW os) #[] 8 (osW os)
    (World.shaped_of_ZipB (zipW os) (tailW os)) (wideW os) (preW os H enc) (sizeW os H enc) (laidW os)
end Go.Proofs.YtojcehhfeleclaaGreatDoor.topNamesLaw
