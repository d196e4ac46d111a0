/-
  Messages: the document's Least, Check, Same. No condition but that bytes read as data.
-/
import Derived.Test.YtbmbpcibihddaaaFrameD
import Derived.Test.YtbmbpcibihddaaaNoteS
namespace Go.Proofs.Ytbmbpcibihddaaa
open Go.ChangeShapes Go.WideShapes Go.ChangeAt Go.RowKit
theorem least_pos {k : Int} (h : fknownB k = true) : (0 : Int) < leastZ k := by
  have : k = 1 ∨ k = 2 ∨ k = 3 ∨ k = 4 := by simp [fknownB] at h; omega
  rcases this with rfl | rfl | rfl | rfl <;> decide
theorem least_zero {k : Int} (h : fknownB k = false) : leastZ k = 0 := by
  have : ¬ k = 1 ∧ ¬ k = 2 ∧ ¬ k = 3 ∧ ¬ k = 4 := by simp [fknownB] at h; omega
  obtain ⟨h1, h2, h3, h4⟩ := this
  simp [leastZ, h1, h2, h3, h4]

theorem wrap_19 (n : Int) (h0 : 0 ≤ n) (h1 : n ≤ 9223372036854775807) : IntKind.i64.wrap (n + 19) = n + 19 ∨ IntKind.i64.wrap (n + 19) < 0 ∧ 4077 < n := by
  by_cases h : n + 19 ≤ 9223372036854775807
  · exact .inl (IntWalk.i64_in _ (by omega))
  · refine .inr ⟨?_, by omega⟩
    have e : IntKind.i64.wrap (n + 19) = n + 19 - 18446744073709551616 := by
      unfold IntKind.wrap
      have hm : (n + 19) % (2 ^ IntKind.i64.bits : Int) = n + 19 := by
        show (n + 19) % 18446744073709551616 = n + 19
        omega
      simp only [hm]
      rw [if_pos (by simp [IntKind.signed, IntKind.bits]; omega)]
      rfl
    omega

/-- are two messages the same? -/
def sameM (a b : MV) : Bool := decide (a.ty = b.ty) && eqB a.d b.d
end Go.Proofs.Ytbmbpcibihddaaa
