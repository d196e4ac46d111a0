/-
  One call worked out by the kernel: (*bypath/control.Control).Step at 1969. No condition.
-/
import Derived.Test.YtojcehhfeleclaaGreatDoorTopT
namespace Go.Proofs.YtojcehhfeleclaaGreatDoor
theorem chk3 : Ev.tabChk tab3 (Ev.callQ Tryz.prog 12 (cfgT []) 40 tab3.f tab3.xs (Ev.tabHp tab3)) = true := by kernel_rfl
end Go.Proofs.YtojcehhfeleclaaGreatDoor
