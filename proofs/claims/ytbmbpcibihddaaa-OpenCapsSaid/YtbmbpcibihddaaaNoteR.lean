/-
  Notes: the document's Get. No condition but that bytes read as data.
-/
import Derived.Test.YtbmbpcibihddaaaNoteB
namespace Go.Proofs.Ytbmbpcibihddaaa
open Go.ChangeShapes Go.WideShapes Go.ChangeAt Go.RowKit
end Go.Proofs.Ytbmbpcibihddaaa
