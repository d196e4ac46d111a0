/-
  What else the row says of the program. No condition.
-/
import Derived.Test.YtojcehhfeleclaaGreatDoorRows
import Derived.Test.YtojcehhfeleclaaGreatDoorTopI2
import Derived.Handed
import Derived.JoinedOf
import GoSem.ClaimGoes
import Derived.SevenTiedAt
namespace Go.Proofs.YtojcehhfeleclaaGreatDoor
open Go
theorem jHeard : Tryz.prog.stopsHeard = true := by kernel_rfl
theorem jEnter : Tryz.prog.mayEnter = true := by kernel_rfl
theorem jLooks : true = Tryz.prog.looks [] := by kernel_rfl
theorem jKeys : (Rows.topNamesRow.plainKeys == Tryz.prog.plainKeys) = true := by kernel_rfl
theorem jLifts : (Rows.topNamesRow.lifted == Tryz.prog.liftsFinal) = true := by kernel_rfl
theorem jMake : (Tryz.prog.make == some Rows.topNamesRow.make) = true := by kernel_rfl
theorem joined : joinedFacts Tryz.prog 4 Tryz.f4 Rows.topNamesSpec Rows.topNamesRow = true := by
  unfold joinedFacts
  exact (andT (andT (andT (andT (andT (andT (andT (andT (andT (andT (andT (andT (andT (andT (andT (andT (andT (andT (andT (andT (andT (andT (andT (andT (andT (andT (andT (andT (andT (andT (andT (by kernel_rfl) (laidOutT)) (mapsT)) (by kernel_rfl)) (by kernel_rfl)) (by kernel_rfl)) (by kernel_rfl)) (by kernel_rfl)) (by kernel_rfl)) (jInPlace)) (jUnf)) (jRec)) (jNamed)) (by kernel_rfl)) (by kernel_rfl)) (by kernel_rfl)) (by kernel_rfl)) (by kernel_rfl)) (by kernel_rfl)) (by kernel_rfl)) (by kernel_rfl)) (by kernel_rfl)) (jKeys)) (by kernel_rfl)) (jHeard)) (jEnter)) (jLifts)) (jMake)) (by kernel_rfl)) (by kernel_rfl)) (by kernel_rfl)) (by kernel_rfl))
end Go.Proofs.YtojcehhfeleclaaGreatDoor
