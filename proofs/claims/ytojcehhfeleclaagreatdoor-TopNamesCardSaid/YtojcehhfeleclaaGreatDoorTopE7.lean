/-
  One call worked out by the kernel: (*bypath/control.Control).Step at 7004. No condition.
-/
import Derived.Test.YtojcehhfeleclaaGreatDoorTopT
namespace Go.Proofs.YtojcehhfeleclaaGreatDoor
theorem chk7 : Ev.tabChk tab7 (Ev.callQ Tryz.prog 12 (cfgT []) 40 tab7.f tab7.xs (Ev.tabHp tab7)) = true := by kernel_rfl
end Go.Proofs.YtojcehhfeleclaaGreatDoor
