/-
  A row of messages that reads as data. No condition.
-/
import Derived.Test.YteokhnkipandbaaDoorFrameOpen
namespace Go.Proofs.YteokhnkipandbaaDoor
open Go.ChangeShapes Go.WideShapes Go.ChangeAt Go.RowKit

theorem open_msgs {H : Type} {enc : TypeId × Value → H} {w : World} {base : Nat} {spare : Nat → Bool} {held : Bool} {fuel : Nat} {cs : List Value} {x : DataW H × List MemPlace} (h : DataW.trod enc Tryd.prog w base spare held fuel 73 cs = some x) :
    ∃ (A : Option Addr) (cap : Nat) (l : List MV), cs = [.slice A l.length cap] ∧ l.length ≤ maxLen ∧ Reads w (fun _ => True) A (l.flatMap fun m => m.cells.toList) ∧ ∀ m ∈ l, m.d.length ≤ maxLen ∧ Reads w (fun _ => True) m.A (m.d.map vb) := by
  obtain ⟨A, cap, ys, hcs, hl, hm, hn, hr, hg⟩ := open_row (sz := 2) (Y := MV) (fun m => m.cells.toList) (fun m => m.d.length ≤ maxLen ∧ Reads w (fun _ => True) m.A (m.d.map vb)) Tryd.underlying73 (by kernel_rfl) (by omega)
    (fun n cs' x hx => by
      obtain ⟨m, e, h1, h2, _, _⟩ := open_msg hx
      exact ⟨m, e, h1, h2⟩) h
  exact ⟨A, cap, ys, hcs, by omega, hr, fun m hm' => (hg m hm').1⟩
end Go.Proofs.YteokhnkipandbaaDoor
