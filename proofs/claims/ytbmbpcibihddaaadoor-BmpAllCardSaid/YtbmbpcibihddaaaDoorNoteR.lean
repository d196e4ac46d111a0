/-
  Notes: the document's Get. No condition but that bytes read as data.
-/
import Derived.Test.YtbmbpcibihddaaaDoorNoteB
namespace Go.Proofs.YtbmbpcibihddaaaDoor
open Go.ChangeShapes Go.WideShapes Go.ChangeAt Go.RowKit
end Go.Proofs.YtbmbpcibihddaaaDoor
