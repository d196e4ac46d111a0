/-
  One call worked out by the kernel: (*bypath/control.Control).Step at 3063. No condition.
-/
import Derived.Test.YtojcehhfeleclaaGreatDoorTopT
namespace Go.Proofs.YtojcehhfeleclaaGreatDoor
theorem chk6 : Ev.tabChk tab6 (Ev.callQ Tryz.prog 12 (cfgT []) 40 tab6.f tab6.xs (Ev.tabHp tab6)) = true := by kernel_rfl
end Go.Proofs.YtojcehhfeleclaaGreatDoor
