/-
  One call worked out by the kernel: bypath/world.Run at 1371. No condition.
-/
import Derived.Test.YtojcehhfeleclaaGreatDoorTopT
namespace Go.Proofs.YtojcehhfeleclaaGreatDoor
theorem chk9 : Ev.tabChk tab9 (Ev.callQ Tryz.prog 12 (cfgT [tab3, tab6]) 40 tab9.f tab9.xs (Ev.tabHp tab9)) = true := by kernel_rfl
end Go.Proofs.YtojcehhfeleclaaGreatDoor
