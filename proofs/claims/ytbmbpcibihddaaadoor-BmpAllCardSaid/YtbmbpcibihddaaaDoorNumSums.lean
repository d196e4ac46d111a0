/-
  Numbers that are capped: near, sums and differences, in the program and in the document's answer, one contract each. No condition.
-/
import Derived.Test.YtbmbpcibihddaaaDoorKit
import Derived.Test.YtbmbpcibihddaaaDoorChecked
namespace Go.Proofs.YtbmbpcibihddaaaDoor
open Go.ChangeShapes Go.WideShapes Go.ChangeAt Go.RowKit

/-- from 0 to the cap -/
def nearZ (n : Int) : Int := min (max n 0) 9007199254740991
theorem nearZ_bd (n : Int) : 0 ≤ nearZ n ∧ nearZ n ≤ 9007199254740991 := by unfold nearZ; omega
theorem nearZ_low {n : Int} (h : n < 0) : nearZ n = 0 := by unfold nearZ; omega
theorem nearZ_in {n : Int} (h : 0 ≤ n) (k : n ≤ 9007199254740991) : nearZ n = n := by unfold nearZ; omega
theorem nearZ_high {n : Int} (h : 9007199254740991 < n) : nearZ n = 9007199254740991 := by unfold nearZ; omega
def addZ (a b : Int) : Int := nearZ (nearZ a + nearZ b)
def subZ (a b : Int) : Int := nearZ (nearZ a - nearZ b)

end Go.Proofs.YtbmbpcibihddaaaDoor
