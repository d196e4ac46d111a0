/-
  The tie of the row TopNames, out of its closed facts one by one (the given text makes them in one declaration, which is more than the memory). No condition.
-/
import Derived.Test.YtojcehhfeleclaaGreatDoorTieB0
import Derived.Test.YtojcehhfeleclaaGreatDoorTieB1
import Derived.Test.YtojcehhfeleclaaGreatDoorTieB2
import Derived.Test.YtojcehhfeleclaaGreatDoorTieB3
import Derived.Test.YtojcehhfeleclaaGreatDoorTieB4
namespace Go.Proofs.YtojcehhfeleclaaGreatDoor
open Go
theorem tieT : Tryz.prog.laidByTextLater tieL tieK true :=
  Program.laidByTextLater_by_run 400 8 fw fw2 froot fk fg fn fd f1 f2 fp
theorem pin_laid_unicode_utf8_first : Tryz.pinned.checked.prog.pinnedFits "unicode/utf8.first" = true := by kernel_rfl
theorem noOwnUnsafe : Tryz.pinned.checked.prog.headLifts.contains "ownunsafe" = false := by kernel_rfl
theorem fits1 : Tryz.pinned.checked.prog.listedFits [("bypath/conf.words", Rows.laid_bypath_conf_words), ("internal/strconv.uint64pow10", Rows.laid_internal_strconv_uint64pow10), ("math/bits.deBruijn32tab", Rows.laid_math_bits_deBruijn32tab), ("math/bits.deBruijn64tab", Rows.laid_math_bits_deBruijn64tab), ("unicode/utf8.first", Rows.laid_unicode_utf8_first), ("unicode/utf8.acceptRanges", Rows.laid_unicode_utf8_acceptRanges), ("strconv.ErrSyntax", Rows.laid_strconv_ErrSyntax), ("strconv.ErrRange", Rows.laid_strconv_ErrRange), ("bypath/frame.least", Rows.laid_bypath_frame_least)] = true := by
  unfold Program.listedFits
  rw [noOwnUnsafe]
  kernel_rfl
theorem topNames_row_tie : Rows.topNamesRow.laidByTextAt .later Tryz.pinned [.data, .data, .data, .data, .pinned, .data, .sentinel, .sentinel, .data] true :=
  OpenClaim.laidByTextAt_pinned rfl rfl tieT rfl rfl rfl rfl (fun y hy _e => by
    simp only [Rows.topNamesRow, List.zip_cons_cons, List.zip_nil_right, List.mem_cons, List.mem_nil_iff, or_false] at hy
    rcases hy with rfl | rfl | rfl | rfl | rfl | rfl | rfl | rfl | rfl
    · cases _e
    · cases _e
    · cases _e
    · cases _e
    · exact ⟨pin_laid_unicode_utf8_first, by kernel_rfl⟩
    · cases _e
    · cases _e
    · cases _e
    · cases _e) fits1
end Go.Proofs.YtojcehhfeleclaaGreatDoor
