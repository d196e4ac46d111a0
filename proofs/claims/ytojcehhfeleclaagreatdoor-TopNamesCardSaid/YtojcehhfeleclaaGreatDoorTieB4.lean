/-
  Closed facts of the tie, each by the kernel. No condition.
-/
import Derived.Test.YtojcehhfeleclaaGreatDoorTieA
namespace Go.Proofs.YtojcehhfeleclaaGreatDoor
open Go
theorem f2 : ∀ os tape, (DataW.laidRun Tryz.prog (varsWorld Tryz.prog 400 (varsId Tryz.prog) os tape).memory 8 (tieL.map (·.1))).map (fun x => decide x.2.Nodup && laidRowsB Tryz.prog (varsWorld Tryz.prog 400 (varsId Tryz.prog) os tape).memory x.2) = some true := fun _ _ => by kernel_rfl
end Go.Proofs.YtojcehhfeleclaaGreatDoor
