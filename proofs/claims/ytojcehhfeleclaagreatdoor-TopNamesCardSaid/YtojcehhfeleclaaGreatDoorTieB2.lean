/-
  Closed facts of the tie, each by the kernel. No condition.
-/
import Derived.Test.YtojcehhfeleclaaGreatDoorTieA
namespace Go.Proofs.YtojcehhfeleclaaGreatDoor
open Go
theorem fd : ∀ os tape, varsDone Tryz.prog 400 (varsId Tryz.prog) os tape = true := fun _ _ => by kernel_rfl
end Go.Proofs.YtojcehhfeleclaaGreatDoor
