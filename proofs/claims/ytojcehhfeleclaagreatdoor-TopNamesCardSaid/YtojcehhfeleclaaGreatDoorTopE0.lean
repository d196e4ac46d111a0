/-
  One call worked out by the kernel: (*bypath/audit.judge).step at 5023. No condition.
-/
import Derived.Test.YtojcehhfeleclaaGreatDoorTopT
namespace Go.Proofs.YtojcehhfeleclaaGreatDoor
theorem chk0 : Ev.tabChk tab0 (Ev.callQ Tryz.prog 12 (cfgT []) 40 tab0.f tab0.xs (Ev.tabHp tab0)) = true := by kernel_rfl
end Go.Proofs.YtojcehhfeleclaaGreatDoor
