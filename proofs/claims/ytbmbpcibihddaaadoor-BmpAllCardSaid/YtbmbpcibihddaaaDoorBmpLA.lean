/-
  What is monitored: the one case that lives, as data. No program in sight. No condition.
-/
import Derived.Test.YtbmbpcibihddaaaDoorBmpW
import Derived.Test.YtbmbpcibihddaaaDoorFrameF
namespace Go.Proofs.YtbmbpcibihddaaaDoor
open Go.ChangeShapes Go.WideShapes Go.ChangeAt Go.RowKit

def liveU : List UInt8 := List.replicate 16 255 ++ [0, 23, 2, 0, 0, 0, 0]
def liveM (A : Option Addr) (c : Nat) : MoV := ⟨0, 1, 2, 3, 4, 0, 0, none, 0, [], A, c, liveU, []⟩
def liveX (A : Option Addr) (c : Nat) : MoV := ⟨0, 1, 2, 3, 4, 0, 0, none, 0, [], A, c, liveU, [120]⟩
def liveD : MD := ⟨0, 1, 2, 3, 4, 0, 0, [], liveU, []⟩
theorem live_u (A : Option Addr) (c : Nat) : (MV.mk 2 A c (List.replicate 4 0)).put = liveU := by
  show List.replicate 16 255 ++ (be 2 (19 + (List.replicate 4 (0 : UInt8)).length) ++ (UInt8.ofNat (2 : Int).toNat :: List.replicate 4 0)) = liveU
  decide +kernel
theorem live_mok (A : Option Addr) (c : Nat) : (MV.mk 2 A c (List.replicate 4 0)).ok = true := by rfl
theorem live_ok : liveD.ok = true := by decide +kernel
theorem live_x (A : Option Addr) (c : Nat) : (liveX A c).d.ok = false := by
  show (MD.mk 0 1 2 3 4 0 0 [] liveU [120]).ok = false
  decide +kernel
theorem live_len : liveD.put.length = 71 := by decide +kernel
theorem live_4 : (mon0 4).d.ok = true := by decide +kernel
theorem live_c : (mon0 4).d.put = [3, 0, 0, 0, 10, 4, 0, 0, 0, 0] := by decide +kernel
theorem live_w2 : wholeB liveU 2 = true := by decide +kernel
theorem live_w1 : wholeB liveU 1 = false := by decide +kernel
theorem live_cut : bget (liveD.put.take 50) = none := by decide +kernel
theorem live_get : bget (liveD.put ++ [9]) = some (liveD, 71) := by
  have := bget_put liveD live_ok ⟨by decide, by decide, by decide⟩ [9]
  rwa [live_len] at this
theorem live_all : ball (liveD.put ++ (mon0 4).d.put) = some [liveD, (mon0 4).d] := by
  have h1 : bget (liveD.put ++ (mon0 4).d.put) = some (liveD, liveD.put.length) := bget_put liveD live_ok ⟨by decide, by decide, by decide⟩ _
  have h2 : bget ((mon0 4).d.put ++ []) = some ((mon0 4).d, (mon0 4).d.put.length) := bget_put (mon0 4).d live_4 ⟨by decide, by decide, by decide⟩ _
  rw [List.append_nil] at h2
  unfold ball
  obtain ⟨f, e1, hf⟩ := ballF_some (by rw [live_c]; simp) (Nat.le_refl _) h1
  rw [List.drop_append_of_le_length (Nat.le_refl _), List.drop_length, List.nil_append] at e1 hf
  obtain ⟨f', e2, -⟩ := ballF_some (by rw [live_c]; simp) hf h2
  rw [List.drop_length, ballF_nil] at e2
  rw [e1, e2]
  rfl
end Go.Proofs.YtbmbpcibihddaaaDoor
