/-
  One call worked out by the kernel: (*bypath/audit.judge).step at 7002. No condition.
-/
import Derived.Test.YtojcehhfeleclaaGreatDoorTopT
namespace Go.Proofs.YtojcehhfeleclaaGreatDoor
theorem chk8 : Ev.tabChk tab8 (Ev.callQ Tryz.prog 12 (cfgT [tab7]) 40 tab8.f tab8.xs (Ev.tabHp tab8)) = true := by kernel_rfl
end Go.Proofs.YtojcehhfeleclaaGreatDoor
