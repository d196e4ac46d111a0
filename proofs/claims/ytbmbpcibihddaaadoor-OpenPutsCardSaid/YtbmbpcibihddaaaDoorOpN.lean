/-
  What routers say of themselves: the document's check; a message. No condition.
-/
import Derived.Test.YtbmbpcibihddaaaDoorOpD
namespace Go.Proofs.YtbmbpcibihddaaaDoor
open Go.ChangeShapes Go.WideShapes Go.ChangeAt Go.RowKit

set_option maxRecDepth 10000 in
set_option maxHeartbeats 4000000 in
theorem orcheck_any (o : OV) (w : World) : Calls Tryd.prog 10 #[o.val] w fun e w' => e = .returned (.bool o.ok) ∧ Below w.heap.size w w' := by
  have hb := below_a1 w (.cells o.cells 24)
  have hE : o.ok = (withinB o.asn 1 o.widest && (decide (o.hold = 0) || withinB o.hold 3 65535) && decide (o.id ≠ 0) && withinB o.paths 0 3) := rfl
  have hwd : o.widest = if o.four then 4294967295 else 65535 := rfl
  generalize o.ok = er at *
  generalize o.widest = wd at *
  obtain ⟨asn, hold, id, four, paths⟩ := o
  simp only [OV.val, OV.cells] at *
  have HE := Lib.hid hE
  have HWD := Lib.hid hwd
  clear hE hwd
  go_enter Tryd.func10, Tryd.ntmps10
  go_wp2_with fail
  all_goals
    go_ret
    refine ⟨?_, below_a1 w _⟩
    have hE := HE.out
    have hW := HWD.out
    subst hE hW
    refine congrArg Ending.returned (congrArg Value.bool ?_)
    rw [Bool.eq_iff_iff]
    cases four <;> simp [withinB] at * <;> omega
end Go.Proofs.YtbmbpcibihddaaaDoor
