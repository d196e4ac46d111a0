/-
  One call worked out by the kernel: (*bypath/control.Control).Step at 5380. No condition.
-/
import Derived.Test.YtojcehhfeleclaaGreatDoorTopT
namespace Go.Proofs.YtojcehhfeleclaaGreatDoor
theorem chk4 : Ev.tabChk tab4 (Ev.callQ Tryz.prog 12 (cfgT []) 40 tab4.f tab4.xs (Ev.tabHp tab4)) = true := by kernel_rfl
end Go.Proofs.YtojcehhfeleclaaGreatDoor
