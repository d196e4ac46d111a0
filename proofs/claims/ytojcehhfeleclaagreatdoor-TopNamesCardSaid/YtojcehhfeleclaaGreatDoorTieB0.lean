/-
  Closed facts of the tie, each by the kernel. No condition.
-/
import Derived.Test.YtojcehhfeleclaaGreatDoorTieA
namespace Go.Proofs.YtojcehhfeleclaaGreatDoor
open Go
theorem fw : Tryz.prog.worded (varsWordLater true) = true := by kernel_rfl
theorem fw2 : Tryz.prog.worded (varsWordLater !true) = false := by kernel_rfl
theorem froot : Tryz.prog.worded rootWordLater = true := by kernel_rfl
theorem fk : tieL.map (fun x => Tryz.prog.kindOfLater x.1) = tieK.map some := by kernel_rfl
theorem fg : (Tryz.prog.funcNamed "gosem.cut.vars").isSome = true := by kernel_rfl
theorem fp : (tieL.all fun x => x.2.handleName?.isNone) = true := by kernel_rfl
end Go.Proofs.YtojcehhfeleclaaGreatDoor
