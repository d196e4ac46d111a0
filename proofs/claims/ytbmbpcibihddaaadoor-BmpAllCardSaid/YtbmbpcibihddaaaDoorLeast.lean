/-
  From the table of least lengths as it is laid to what the walks ask of the world (for the seats that hold no frame statement). No condition.
-/
import Derived.Test.YtbmbpcibihddaaaDoorFrameA
import Derived.Test.YtbmbpcibihddaaaDoorOpen
import Derived.Test.YtbmbpcibihddaaaDoorRows
import Derived.LaidMore
import Derived.Stop.Joined
import Derived.Stop.LaidErr
import Derived.Lib.LaidTab
import Derived.MakeChecks
namespace Go.Proofs.YtbmbpcibihddaaaDoor
open Go.ChangeShapes Go.WideShapes Go.ChangeAt Go.RowKit

theorem least_laid (W : World) (h : laidMetH Tryd.prog [("bypath/frame.least", Rows.laid_bypath_frame_least)] W) : LeastAt W := by
  rw [MakeChecks.laidMetH_plain _ _ _ (by kernel_rfl)] at h
  have hT : Lib.TabIs Tryd.prog W "bypath/frame.least" .i64 [0, 29, 23, 21, 19] :=
    Lib.tabIs_of_head (P := Tryd.prog) (g := 0) (t := 102) (e := 3) (n := 5) (by kernel_rfl) (by kernel_rfl) Tryd.underlying102 Tryd.underlying3 (by kernel_rfl) (by kernel_rfl) h
  have hg : Tryd.prog.globalNamed "bypath/frame.least" = some 0 := by kernel_rfl
  exact ⟨hT.cell hg 1 (by decide), hT.cell hg 2 (by decide), hT.cell hg 3 (by decide), hT.cell hg 4 (by decide)⟩
end Go.Proofs.YtbmbpcibihddaaaDoor
