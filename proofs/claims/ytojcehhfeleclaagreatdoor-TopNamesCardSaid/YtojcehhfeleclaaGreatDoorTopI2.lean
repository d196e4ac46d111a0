/-
  TopNames starts no goroutine. No condition.
-/
import Derived.Test.YtojcehhfeleclaaGreatDoorTopI
namespace Go.Proofs.YtojcehhfeleclaaGreatDoor
open Go
theorem goesF : Tryz.prog.goes 4 = false := by
  unfold Program.goes
  rw [clo_eq, cloGoes, noneGoes, Bool.and_false, Bool.or_false]
theorem any_of {o : Option FuncId} {p : FuncId → Bool} {f : FuncId} (h1 : o = some f) (h2 : p f = false) : o.any p = false := by rw [h1]; exact h2
theorem goesFromF : Tryz.prog.goesFrom "bypath/bypathtop.TopNames" = false := any_of namedF goesF
theorem goesAtF : Tryz.prog.goesAt .entering "bypath/bypathtop.TopNames" = false := by
  unfold Program.goesAt
  rw [goesFromF, Bool.false_or]
theorem jGoes : false = Rows.topNamesRow.goesBy Tryz.prog := goesAtF.symm
end Go.Proofs.YtojcehhfeleclaaGreatDoor
