/-
  Messages' bytes, as the document puts them. No condition but that bytes read as data.
-/
import Derived.Test.YtbmbpcibihddaaaFrameE
namespace Go.Proofs.Ytbmbpcibihddaaa
open Go.ChangeShapes Go.WideShapes Go.ChangeAt Go.RowKit

theorem own_alive {W W' : World} {B n : Nat} {v : Value} {xs : List Value} (h : W.ownsRow B 5 1 v n xs) (hb : Below W.heap.size W W') : W'.ownsRow B 5 1 v n xs := own_only h (S := fun _ => False) (Only.of_below hb) (fun _ _ h => h)
end Go.Proofs.Ytbmbpcibihddaaa
