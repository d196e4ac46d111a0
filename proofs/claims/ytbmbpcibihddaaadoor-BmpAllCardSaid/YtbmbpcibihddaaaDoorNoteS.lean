/-
  Notes: are two the same; the document's Check and Body. No condition but that bytes read as data.
-/
import Derived.Test.YtbmbpcibihddaaaDoorNoteR
namespace Go.Proofs.YtbmbpcibihddaaaDoor
open Go.ChangeShapes Go.WideShapes Go.ChangeAt Go.RowKit

/-- are two notes the same? -/
def sameN (a b : NV) : Bool := decide (a.code = b.code) && decide (a.sub = b.sub) && eqB a.d b.d
theorem str_inj {a b : List UInt8} (h : str a = str b) : a = b := by
  have := congrArg ByteArray.toList h
  simpa [str_toList] using this

section
variable (a b : NV) (w : World) (F G : Nat → Prop)
theorem same_boxes : Blk ((w.alloc (.cells a.cells 37)).alloc (.cells b.cells 37)) w.heap.size 37 a.cells ∧ Blk ((w.alloc (.cells a.cells 37)).alloc (.cells b.cells 37)) (w.heap.size + 1) 37 b.cells ∧ Below w.heap.size w ((w.alloc (.cells a.cells 37)).alloc (.cells b.cells 37)) := by
  refine ⟨(Blk.new w _ _).alloc _, ?_, ((Below.refl w.heap.size w).alloc (Nat.le_refl _) _).alloc (by simp) _⟩
  have := Blk.new (w.alloc (.cells a.cells 37)) 37 b.cells
  rw [World.size_alloc] at this
  exact this

end
end Go.Proofs.YtbmbpcibihddaaaDoor
