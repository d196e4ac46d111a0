/-
  The list of the variables whose values are tied to the program's text, as the given tie has it. No condition.
-/
import Derived.Test.YtojcehhfeleclaaGreatDoorRows
import Derived.LaidByTextLater
import Derived.SevenTiedAt
namespace Go.Proofs.YtojcehhfeleclaaGreatDoor
open Go
def tieL : List (String × DataW Unit) := [("bypath/conf.words", Rows.laid_bypath_conf_words), ("internal/strconv.uint64pow10", Rows.laid_internal_strconv_uint64pow10), ("math/bits.deBruijn32tab", Rows.laid_math_bits_deBruijn32tab), ("math/bits.deBruijn64tab", Rows.laid_math_bits_deBruijn64tab), ("unicode/utf8.acceptRanges", Rows.laid_unicode_utf8_acceptRanges), ("strconv.ErrSyntax", Rows.laid_strconv_ErrSyntax), ("strconv.ErrRange", Rows.laid_strconv_ErrRange), ("bypath/frame.least", Rows.laid_bypath_frame_least)]
def tieK : List LaidKind := [.data, .data, .data, .data, .data, .sentinel, .sentinel, .data]
end Go.Proofs.YtojcehhfeleclaaGreatDoor
