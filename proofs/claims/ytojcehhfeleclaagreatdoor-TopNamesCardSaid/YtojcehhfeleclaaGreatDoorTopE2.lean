/-
  One call worked out by the kernel: bypath/script.Decode at 854. No condition.
-/
import Derived.Test.YtojcehhfeleclaaGreatDoorTopT
namespace Go.Proofs.YtojcehhfeleclaaGreatDoor
theorem chk2 : Ev.tabChk tab2 (Ev.callQ Tryz.prog 12 (cfgT []) 40 tab2.f tab2.xs (Ev.tabHp tab2)) = true := by kernel_rfl
end Go.Proofs.YtojcehhfeleclaaGreatDoor
