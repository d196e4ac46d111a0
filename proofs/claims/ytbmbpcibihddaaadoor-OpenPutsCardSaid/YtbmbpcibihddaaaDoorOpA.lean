/-
  What routers say of themselves: Check, the program's and the document's. No condition.
-/
import Derived.Test.YtbmbpcibihddaaaDoorOpV
namespace Go.Proofs.YtbmbpcibihddaaaDoor
open Go.ChangeShapes Go.WideShapes Go.ChangeAt Go.RowKit

theorem within_any (n a b : Int) (w : World) : Calls Tryd.prog 32 #[.int .i64 n, .int .i64 a, .int .i64 b] w fun e w' => e = .returned (.bool (withinB n a b)) ∧ w = w' := by
  by_cases h1 : a ≤ n
  · by_cases h2 : n ≤ b
    · have H := Lib.hid fun (_ : Unit) => (show withinB n a b = true by simp [withinB, h1, h2])
      go_enter Tryd.func32, Tryd.ntmps32
      go_wp2_with fail
      go_ret
      exact ⟨by rw [H.out ()]; rfl, rfl⟩
    · have H := Lib.hid fun (_ : Unit) => (show withinB n a b = false by simp [withinB, h2])
      go_enter Tryd.func32, Tryd.ntmps32
      go_wp2_with fail
      go_ret
      exact ⟨by rw [H.out ()]; rfl, rfl⟩
  · have H := Lib.hid fun (_ : Unit) => (show withinB n a b = false by simp [withinB, h1])
    go_enter Tryd.func32, Tryd.ntmps32
    go_wp2_with fail
    go_ret
    exact ⟨by rw [H.out ()]; rfl, rfl⟩

theorem blk5 {w : World} {g : Nat} {t : TypeId} {a b c d e : Value} (h : Blk w g t #[a, b, c, d, e]) : w.cell? ⟨g, 0, none⟩ = some a ∧ w.cell? ⟨g, 1, none⟩ = some b ∧ w.cell? ⟨g, 2, none⟩ = some c ∧ w.cell? ⟨g, 3, none⟩ = some d ∧ w.cell? ⟨g, 4, none⟩ = some e :=
  ⟨by rw [h.cell 0]; rfl, by rw [h.cell 1]; rfl, by rw [h.cell 2]; rfl, by rw [h.cell 3]; rfl, by rw [h.cell 4]; rfl⟩

set_option maxHeartbeats 8000000 in
theorem ocheck_any (o : OV) (w : World) : Calls Tryd.prog 11 #[o.val] w fun e w' => e = .returned (.int .i64 o.err) ∧ Below w.heap.size w w' := by
  have hb := below_a1 w (.cells o.cells 24)
  have hE : o.err = if (withinB o.asn 1 o.widest && (decide (o.hold = 0) || withinB o.hold 3 65535) && decide (o.id ≠ 0) && withinB o.paths 0 3) then 0 else 40 := rfl
  have hwd : o.widest = if o.four then 4294967295 else 65535 := rfl
  generalize o.err = er at *
  generalize o.widest = wd at *
  obtain ⟨asn, hold, id, four, paths⟩ := o
  simp only [OV.val, OV.cells] at *
  have hz : hold = 0 ∨ ¬ hold = 0 := Decidable.em _
  have hi : id = 0 ∨ ¬ (id : Int) = 0 := by omega
  have hD : (withinB asn 1 wd = false ∧ (hold = 0 ∨ ¬ hold = 0)) ∨ (withinB asn 1 wd = true ∧ ¬ hold = 0 ∧ withinB hold 3 65535 = false) ∨ (withinB asn 1 wd = true ∧ (hold = 0 ∨ (¬ hold = 0 ∧ withinB hold 3 65535 = true)) ∧ (id = 0 ∨ (¬ (id : Int) = 0 ∧ withinB paths 0 3 = false) ∨ (¬ (id : Int) = 0 ∧ withinB paths 0 3 = true))) := by
    cases withinB asn 1 wd <;> cases withinB hold 3 65535 <;> cases withinB paths 0 3 <;> rcases hz with h | h <;> rcases hi with k | k <;> simp [h] <;> omega
  clear hi hz
  cases four <;> simp at hwd <;> subst hwd <;> rcases hD with ⟨h1, rfl | hz0⟩ | ⟨h1, hz0, h2⟩ | ⟨h1, rfl | ⟨hz0, h2⟩, rfl | ⟨hi, h3⟩ | ⟨hi, h3⟩⟩
  all_goals
    have HE := Lib.hid (show er = _ from by rw [hE])
    clear hE
    have H1 := Lib.hid h1
    first | (have H2 := Lib.hid h2; clear h2) | skip
    first | (have H3 := Lib.hid h3; clear h3) | skip
    clear h1
    go_enter Tryd.func11, Tryd.ntmps11
    go_wp2_with (go_at_call 32; refine (within_any _ _ _ _).mono ?_; rintro e w' ⟨rfl, rfl⟩; first | rw [H1.out] | rw [H2.out] | rw [H3.out] | skip)
    go_ret
    refine ⟨?_, hb⟩
    rw [HE.out, H1.out]
    first | rw [H2.out] | skip
    first | rw [H3.out] | skip
    first | rfl | simp [*] | (have : ¬ id = 0 := (by omega); simp [*]) | (have : id = 0 := (by omega); simp [*])
end Go.Proofs.YtbmbpcibihddaaaDoor
