/-
  The gate's calls (New, Step, Open, Count), one contract each. No condition but that the gate is one that New made.
-/
import Derived.Test.YtifiabhoeagblaaKit
import Derived.Test.YtifiabhoeagblaaChecked
import Derived.StillTailTactics
import Derived.RegionTactic
import Derived.ChangeAlike
import Derived.BigRegion
import Derived.Deep.RegionHeld3
namespace Go.Proofs.Ytifiabhoeagblaa
open Go.ChangeShapes Go.WideShapes Go.ChangeAt Go.RowKit

theorem gate_new_bad (n : Int) (w : World) (h : n < 1 ∨ 1048576 < n) :
    Calls Try.prog 10 #[.int .i64 n] w fun e w' => e = .returned (.tuple #[.pointer none, .int .i64 1]) ∧ w = w' := by
  rcases h with h | h
  · go_enter Try.func10, Try.ntmps10
    go_wp2
    go_ret2
    exact ⟨rfl, rfl⟩
  · have h' : ¬ n < 1 := by omega
    go_enter Try.func10, Try.ntmps10
    go_wp2
    go_ret2
    exact ⟨rfl, rfl⟩

theorem gate_new_ok (n : Int) (w : World) (h1 : 1 ≤ n) (h2 : n ≤ 1048576) :
    Calls Try.prog 10 #[.int .i64 n] w fun e w' => e = .returned (.tuple #[.pointer (some ⟨w.heap.size, 0, none⟩), .int .i64 0]) ∧ w.alloc (.cells #[.int .i64 0, .int .i64 n] 67) = w' := by
  go_enter Try.func10, Try.ntmps10
  go_wp2
  go_ret2
  exact ⟨rfl, rfl⟩

theorem gate_open_nil (w : World) : Calls Try.prog 14 #[.pointer none] w fun e w' => e = .returned (.bool false) ∧ ∃ k, w' = w.drewN k := by
  go_enter Try.func14, Try.ntmps14
  go_wp2
  go_quiet (fail)
  go_wp2
  go_ret
  exact ⟨rfl, ⟨_, rfl⟩⟩

theorem gate_count_nil (w : World) : Calls Try.prog 15 #[.pointer none] w fun e w' => e = .returned (.int .i64 0) ∧ w = w' := by
  go_enter Try.func15, Try.ntmps15
  go_wp2
  go_ret
  exact ⟨rfl, rfl⟩

theorem gate_count (b : Nat) (n warm : Int) (w : World) (hb : Blk w b 67 #[.int .i64 n, .int .i64 warm]) :
    Calls Try.prog 15 #[.pointer (some ⟨b, 0, none⟩)] w fun e w' => e = .returned (.int .i64 n) ∧ w = w' := by
  have hc := hb.cell 0
  simp at hc
  go_enter Try.func15, Try.ntmps15
  go_wp2
  go_ret
  exact ⟨rfl, rfl⟩

theorem gate_open (b : Nat) (n warm : Int) (w : World) (hw : 1 ≤ warm) (hb : Blk w b 67 #[.int .i64 n, .int .i64 warm]) :
    Calls Try.prog 14 #[.pointer (some ⟨b, 0, none⟩)] w fun e w' => e = .returned (.bool (decide (warm ≤ n))) ∧ ∃ k, w' = w.drewN k := by
  have hc0 := hb.cell 0
  have hc1 := hb.cell 1
  simp at hc0 hc1
  have hp : 0 < warm := by omega
  go_enter Try.func14, Try.ntmps14
  go_wp2
  go_quiet (fail)
  go_wp2
  go_ret
  exact ⟨rfl, ⟨_, rfl⟩⟩

theorem gate_step_nil (f : Bool) (w : World) : Calls Try.prog 12 #[.pointer none, .bool f] w fun e w' => e = .returned (.bool false) ∧ w = w' := by
  go_enter Try.func12, Try.ntmps12
  go_wp2
  go_ret
  exact ⟨rfl, rfl⟩

theorem gate_step_no (b : Nat) (n warm : Int) (w : World) (hb : Blk w b 67 #[.int .i64 n, .int .i64 warm]) :
    Calls Try.prog 12 #[.pointer (some ⟨b, 0, none⟩), .bool false] w fun e w' => e = .returned (.bool false) ∧
      Blk w' b 67 #[.int .i64 0, .int .i64 warm] ∧ Only (· = b) w w' := by
  have hc0 := hb.cell 0
  have hf := hb.frozen 0
  simp at hc0
  go_enter Try.func12, Try.ntmps12
  go_wp2
  go_ret
  exact ⟨rfl, by simpa using hb.set_ 0 (.int .i64 0), (Only.refl (· = b) w).setCell (fun _ => rfl) _⟩

theorem gate_step_yes (b : Nat) (n warm : Int) (w : World) (h0 : 0 ≤ n) (h1 : n ≤ warm) (h2 : 1 ≤ warm) (h3 : warm ≤ 1048576) (hb : Blk w b 67 #[.int .i64 n, .int .i64 warm]) :
    Calls Try.prog 12 #[.pointer (some ⟨b, 0, none⟩), .bool true] w fun e w' => e = .returned (.bool (decide (warm ≤ n + 1))) ∧
      Blk w' b 67 #[.int .i64 (min (n + 1) warm), .int .i64 warm] ∧ Only (· = b) w w' := by
  have hc0 := hb.cell 0
  have hc1 := hb.cell 1
  have hf := hb.frozen 0
  simp at hc0 hc1
  have hs : IntKind.i64.wrap (n + 1) = n + 1 := IntWalk.i64_in _ (by omega)
  by_cases hm : n + 1 ≤ warm
  · have hb2 : Blk (w.setCell ⟨b, 0, none⟩ (.int .i64 (n + 1))) b 67 #[.int .i64 (n + 1), .int .i64 warm] := by simpa using hb.set_ 0 (.int .i64 (n + 1))
    have ho : Only (· = b) w (w.setCell ⟨b, 0, none⟩ (.int .i64 (n + 1))) := (Only.refl (· = b) w).setCell (fun _ => rfl) _
    have hmin : min (n + 1) warm = n + 1 := by omega
    have HM := Lib.hid hmin
    clear hmin hb
    go_enter Try.func12, Try.ntmps12
    go_wp2
    go_still_tail 13, (by kernel_rfl)
    go_wp2_with fail
    refine (gate_open b _ warm _ h2 (by exact hb2)).mono ?_
    rintro e w' ⟨rfl, k, rfl⟩
    go_wp2_with fail
    go_ret
    exact ⟨rfl, by rw [HM.out]; exact hb2, ho.drewN _⟩
  · have hm' : warm < n + 1 := by omega
    have hb2 : Blk (w.setCell ⟨b, 0, none⟩ (.int .i64 warm)) b 67 #[.int .i64 warm, .int .i64 warm] := by simpa using hb.set_ 0 (.int .i64 warm)
    have ho : Only (· = b) w (w.setCell ⟨b, 0, none⟩ (.int .i64 warm)) := (Only.refl (· = b) w).setCell (fun _ => rfl) _
    have hmin : min (n + 1) warm = warm := by omega
    have hd : decide (warm ≤ n + 1) = true := by simp; omega
    have HM := Lib.hid hmin
    have HD := Lib.hid hd
    clear hmin hb hd
    go_enter Try.func12, Try.ntmps12
    go_wp2
    go_still_tail 13, (by kernel_rfl)
    go_wp2_with fail
    refine (gate_open b _ warm _ h2 (by exact hb2)).mono ?_
    rintro e w' ⟨rfl, k, rfl⟩
    go_wp2_with fail
    go_ret
    exact ⟨by rw [HD.out]; rfl, by rw [HM.out]; exact hb2, ho.drewN _⟩
end Go.Proofs.Ytifiabhoeagblaa
