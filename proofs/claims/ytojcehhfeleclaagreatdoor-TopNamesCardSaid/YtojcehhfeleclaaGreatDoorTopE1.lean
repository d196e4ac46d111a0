/-
  One call worked out by the kernel: bypath/script.Encode at 453. No condition.
-/
import Derived.Test.YtojcehhfeleclaaGreatDoorTopT
namespace Go.Proofs.YtojcehhfeleclaaGreatDoor
theorem chk1 : Ev.tabChk tab1 (Ev.callQ Tryz.prog 12 (cfgT []) 40 tab1.f tab1.xs (Ev.tabHp tab1)) = true := by kernel_rfl
end Go.Proofs.YtojcehhfeleclaaGreatDoor
