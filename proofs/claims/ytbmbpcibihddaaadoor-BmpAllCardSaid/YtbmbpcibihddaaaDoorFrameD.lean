/-
  Messages' bytes: Repeat of a mark, the program's Put. No condition but that bytes read as data and the table of least lengths as it is laid.
-/
import Derived.Test.YtbmbpcibihddaaaDoorFrameC
import Derived.Test.YtbmbpcibihddaaaDoorHeld
import Derived.Deep.RegionLaw
namespace Go.Proofs.YtbmbpcibihddaaaDoor
open Go.ChangeShapes Go.WideShapes Go.ChangeAt Go.RowKit
def marksL (m : Nat) : List Value := (List.replicate m (255 : UInt8) ++ List.replicate (16 - m) 0).map vb
theorem marks_len (m : Nat) (h : m ≤ 16) : (marksL m).length = 16 := by simp [marksL]; omega
theorem marks_splice (m : Nat) (h : m = 1 ∨ m = 2 ∨ m = 4 ∨ m = 8) : splice (marksL m) m ((List.replicate m (255 : UInt8)).map vb) = marksL (m + m) := by
  rcases h with rfl | rfl | rfl | rfl <;> rfl
theorem marks_take (m : Nat) (j : Nat) (u : Value) (h : ((List.replicate m (255 : UInt8)).map vb)[j]? = some u) : (marksL m)[j]? = some u := by
  unfold marksL
  rw [List.map_append]
  have hj : j < ((List.replicate m (255 : UInt8)).map vb).length := by
    rcases Nat.lt_or_ge j ((List.replicate m (255 : UInt8)).map vb).length with h' | h'
    · exact h'
    · rw [List.getElem?_eq_none h'] at h; cases h
  rw [List.getElem?_append_left hj]
  exact h

theorem full_own {w : World} {B g n : Nat} {xs : List Value} (h : Blk w g 5 xs.toArray) (hB : B ≤ g) (hn : xs.length = n) (hm : n ≤ maxLen) : w.ownsRow B 5 1 (.slice (some ⟨g, 0, none⟩) n n) n xs :=
  ⟨by simp [hn], .inr ⟨g, n, xs.toArray, rfl, hB, h, Nat.le_refl _, hm, by simp [hn], by simp [← hn]⟩⟩

theorem Blk.new1 (w : World) (o : Obj) (t : TypeId) (cs : Array Value) : Blk ((w.alloc o).alloc (.cells cs t)) (w.heap.size + 1) t cs := by
  have := Blk.new (w.alloc o) t cs
  rw [World.size_alloc] at this
  exact this
theorem below_a1 (w : World) (o : Obj) : Below w.heap.size w (w.alloc o) := (Below.refl _ _).alloc (Nat.le_refl _) _
theorem below_a2 (w : World) (o o' : Obj) : Below w.heap.size w ((w.alloc o).alloc o') := (below_a1 w o).alloc (by simp) _

/-- a message's bytes -/
def MV.put (m : MV) : List UInt8 := List.replicate 16 255 ++ (be 2 (19 + m.d.length) ++ (UInt8.ofNat m.ty.toNat :: m.d))
end Go.Proofs.YtbmbpcibihddaaaDoor
