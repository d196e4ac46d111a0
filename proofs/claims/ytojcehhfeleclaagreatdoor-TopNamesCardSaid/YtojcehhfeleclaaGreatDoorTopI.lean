/-
  What the row says of the functions that TopNames comes to. No condition.
-/
import Derived.Test.YtojcehhfeleclaaGreatDoorRows
import Derived.Test.YtojcehhfeleclaaGreatDoorTopG
import Derived.Test.YtojcehhfeleclaaGreatDoorTopH
import Derived.Handed
import Derived.JoinedOf
import GoSem.ClaimGoes
namespace Go.Proofs.YtojcehhfeleclaaGreatDoor
open Go
theorem jInPlace : (Rows.topNamesRow.inPlace == Tryz.prog.inPlace 4) = true := by
  unfold Program.inPlace
  rw [clo_eq]
  kernel_rfl
theorem unfT : Tryz.prog.unfollowed 4 = true := by
  unfold Program.unfollowed
  rw [clo_eq]
  kernel_rfl
theorem jUnf : (Rows.topNamesRow.unfollowed == Tryz.prog.unfollowed 4) = true := by
  rw [unfT]
  kernel_rfl
theorem jRec : (Rows.topNamesRow.recurses == Tryz.prog.recurses 4) = true := by
  unfold Program.recurses
  rw [unfT, Bool.true_or]
  kernel_rfl
theorem jNamed : (Rows.topNamesRow.named == Tryz.prog.varsNamed 4) = true := by
  unfold Program.varsNamed
  rw [clo_eq]
  kernel_rfl
theorem cloGoes : (clo.any fun g => (Tryz.prog.funcs[g]?).any Func.goes) = false := by kernel_rfl
theorem noneGoes : (Tryz.prog.funcs.any Func.goes) = false := by kernel_rfl
theorem namedF : Tryz.prog.funcNamed "bypath/bypathtop.TopNames" = some 4 := by kernel_rfl
end Go.Proofs.YtojcehhfeleclaaGreatDoor
