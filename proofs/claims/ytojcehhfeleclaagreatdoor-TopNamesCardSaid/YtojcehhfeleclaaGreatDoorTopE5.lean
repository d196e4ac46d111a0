/-
  One call worked out by the kernel: (*bypath/audit.judge).step at 5378. No condition.
-/
import Derived.Test.YtojcehhfeleclaaGreatDoorTopT
namespace Go.Proofs.YtojcehhfeleclaaGreatDoor
theorem chk5 : Ev.tabChk tab5 (Ev.callQ Tryz.prog 12 (cfgT [tab4]) 40 tab5.f tab5.xs (Ev.tabHp tab5)) = true := by kernel_rfl
end Go.Proofs.YtojcehhfeleclaaGreatDoor
