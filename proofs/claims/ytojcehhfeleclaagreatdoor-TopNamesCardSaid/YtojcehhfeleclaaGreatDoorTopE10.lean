/-
  One call worked out by the kernel: bypath/audit.Judge at 4328. No condition.
-/
import Derived.Test.YtojcehhfeleclaaGreatDoorTopT
namespace Go.Proofs.YtojcehhfeleclaaGreatDoor
theorem chk10 : Ev.tabChk tab10 (Ev.callQ Tryz.prog 12 (cfgT [tab0, tab5, tab8]) 40 tab10.f tab10.xs (Ev.tabHp tab10)) = true := by kernel_rfl
end Go.Proofs.YtojcehhfeleclaaGreatDoor
