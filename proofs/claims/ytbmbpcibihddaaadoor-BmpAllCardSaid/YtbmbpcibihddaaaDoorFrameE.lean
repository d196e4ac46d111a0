/-
  Messages: the document's Least, Check, Same. No condition but that bytes read as data.
-/
import Derived.Test.YtbmbpcibihddaaaDoorFrameD
import Derived.Test.YtbmbpcibihddaaaDoorNoteS
namespace Go.Proofs.YtbmbpcibihddaaaDoor
open Go.ChangeShapes Go.WideShapes Go.ChangeAt Go.RowKit

theorem least_fn (k : Int) (w : World) : Calls Tryd.prog 79 #[.int .i64 k] w fun e w' => e = .returned (.int .i64 (leastZ k)) ∧ w = w' := by
  by_cases h1 : k = 1
  · subst h1
    go_enter Tryd.func79, Tryd.ntmps79
    go_wp2_with fail
    go_ret
    exact ⟨rfl, rfl⟩
  by_cases h2 : k = 2
  · subst h2
    go_enter Tryd.func79, Tryd.ntmps79
    go_wp2_with fail
    go_ret
    exact ⟨rfl, rfl⟩
  by_cases h3 : k = 3
  · subst h3
    go_enter Tryd.func79, Tryd.ntmps79
    go_wp2_with fail
    go_ret
    exact ⟨rfl, rfl⟩
  by_cases h4 : k = 4
  · subst h4
    go_enter Tryd.func79, Tryd.ntmps79
    go_wp2_with fail
    go_ret
    exact ⟨rfl, rfl⟩
  have H := Lib.hid (show leastZ k = 0 from by simp [leastZ, h1, h2, h3, h4])
  go_enter Tryd.func79, Tryd.ntmps79
  go_wp2_with fail
  go_ret
  exact ⟨by rw [H.out]; rfl, rfl⟩

theorem least_pos {k : Int} (h : fknownB k = true) : (0 : Int) < leastZ k := by
  have : k = 1 ∨ k = 2 ∨ k = 3 ∨ k = 4 := by simp [fknownB] at h; omega
  rcases this with rfl | rfl | rfl | rfl <;> decide
theorem least_zero {k : Int} (h : fknownB k = false) : leastZ k = 0 := by
  have : ¬ k = 1 ∧ ¬ k = 2 ∧ ¬ k = 3 ∧ ¬ k = 4 := by simp [fknownB] at h; omega
  obtain ⟨h1, h2, h3, h4⟩ := this
  simp [leastZ, h1, h2, h3, h4]

theorem wrap_19 (n : Int) (h0 : 0 ≤ n) (h1 : n ≤ 9223372036854775807) : IntKind.i64.wrap (n + 19) = n + 19 ∨ IntKind.i64.wrap (n + 19) < 0 ∧ 4077 < n := by
  by_cases h : n + 19 ≤ 9223372036854775807
  · exact .inl (IntWalk.i64_in _ (by omega))
  · refine .inr ⟨?_, by omega⟩
    have e : IntKind.i64.wrap (n + 19) = n + 19 - 18446744073709551616 := by
      unfold IntKind.wrap
      have hm : (n + 19) % (2 ^ IntKind.i64.bits : Int) = n + 19 := by
        show (n + 19) % 18446744073709551616 = n + 19
        omega
      simp only [hm]
      rw [if_pos (by simp [IntKind.signed, IntKind.bits]; omega)]
      rfl
    omega

/-- are two messages the same? -/
def sameM (a b : MV) : Bool := decide (a.ty = b.ty) && eqB a.d b.d
end Go.Proofs.YtbmbpcibihddaaaDoor
