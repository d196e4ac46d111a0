/-
  Closed facts of the tie, each by the kernel. No condition.
-/
import Derived.Test.YtojcehhfeleclaaGreatDoorTieA
namespace Go.Proofs.YtojcehhfeleclaaGreatDoor
open Go
theorem fn : varsNamedLaterB Tryz.prog (varsId Tryz.prog) tieL = true := by kernel_rfl
end Go.Proofs.YtojcehhfeleclaaGreatDoor
