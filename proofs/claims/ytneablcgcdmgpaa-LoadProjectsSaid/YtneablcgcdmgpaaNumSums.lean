/-
  Numbers that are capped: near, sums and differences, in the program and in the document's answer, one contract each. No condition.
-/
import Derived.Test.YtneablcgcdmgpaaKit
import Derived.Test.YtneablcgcdmgpaaChecked
namespace Go.Proofs.Ytneablcgcdmgpaa
open Go.ChangeShapes Go.WideShapes Go.ChangeAt Go.RowKit

/-- from 0 to the cap -/
def nearZ (n : Int) : Int := min (max n 0) 9007199254740991
theorem nearZ_bd (n : Int) : 0 ≤ nearZ n ∧ nearZ n ≤ 9007199254740991 := by unfold nearZ; omega
theorem nearZ_low {n : Int} (h : n < 0) : nearZ n = 0 := by unfold nearZ; omega
theorem nearZ_in {n : Int} (h : 0 ≤ n) (k : n ≤ 9007199254740991) : nearZ n = n := by unfold nearZ; omega
theorem nearZ_high {n : Int} (h : 9007199254740991 < n) : nearZ n = 9007199254740991 := by unfold nearZ; omega
def addZ (a b : Int) : Int := nearZ (nearZ a + nearZ b)
def subZ (a b : Int) : Int := nearZ (nearZ a - nearZ b)

theorem near_any (n : Int) (w : World) : Calls Try.prog 37 #[.int .i64 n] w fun e w' => e = .returned (.int .i64 (nearZ n)) ∧ w = w' := by
  by_cases h0 : n < 0
  · have H := Lib.hid (nearZ_low h0)
    go_enter Try.func37, Try.ntmps37
    go_wp2
    go_ret
    exact ⟨by rw [H.out]; rfl, rfl⟩
  · by_cases h1 : n ≤ 9007199254740991
    · have H := Lib.hid (nearZ_in (by omega) h1)
      go_enter Try.func37, Try.ntmps37
      go_wp2
      go_ret
      exact ⟨by rw [H.out]; rfl, rfl⟩
    · have H := Lib.hid (nearZ_high (n := n) (by omega))
      go_enter Try.func37, Try.ntmps37
      go_wp2
      go_ret
      exact ⟨by rw [H.out]; rfl, rfl⟩

theorem rnear_any (n : Int) (w : World) : Calls Try.prog 28 #[.int .i64 n] w fun e w' => e = .returned (.int .i64 (nearZ n)) ∧ w = w' := by
  by_cases h0 : n < 0
  · have H := Lib.hid (nearZ_low h0)
    go_enter Try.func28, Try.ntmps28
    go_wp2
    go_ret
    exact ⟨by rw [H.out]; rfl, rfl⟩
  · by_cases h1 : n ≤ 9007199254740991
    · have H := Lib.hid (nearZ_in (by omega) h1)
      go_enter Try.func28, Try.ntmps28
      go_wp2
      go_ret
      exact ⟨by rw [H.out]; rfl, rfl⟩
    · have H := Lib.hid (nearZ_high (n := n) (by omega))
      go_enter Try.func28, Try.ntmps28
      go_wp2
      go_ret
      exact ⟨by rw [H.out]; rfl, rfl⟩

theorem add_any (a b : Int) (w : World) : Calls Try.prog 27 #[.int .i64 a, .int .i64 b] w fun e w' => e = .returned (.int .i64 (addZ a b)) ∧ w = w' := by
  have ha := nearZ_bd a
  have hb := nearZ_bd b
  go_enter Try.func27, Try.ntmps27
  go_wp2_with (go_at_call 37; refine (near_any _ _).mono ?_; rintro e w' ⟨rfl, rfl⟩)
  go_ret
  exact ⟨rfl, rfl⟩
theorem sub_any (a b : Int) (w : World) : Calls Try.prog 31 #[.int .i64 a, .int .i64 b] w fun e w' => e = .returned (.int .i64 (subZ a b)) ∧ w = w' := by
  have ha := nearZ_bd a
  have hb := nearZ_bd b
  go_enter Try.func31, Try.ntmps31
  go_wp2_with (go_at_call 37; refine (near_any _ _).mono ?_; rintro e w' ⟨rfl, rfl⟩)
  go_ret
  exact ⟨rfl, rfl⟩
theorem radd_any (a b : Int) (w : World) : Calls Try.prog 29 #[.int .i64 a, .int .i64 b] w fun e w' => e = .returned (.int .i64 (addZ a b)) ∧ w = w' := by
  have ha := nearZ_bd a
  have hb := nearZ_bd b
  go_enter Try.func29, Try.ntmps29
  go_wp2_with (go_at_call 28; refine (rnear_any _ _).mono ?_; rintro e w' ⟨rfl, rfl⟩)
  go_ret
  exact ⟨rfl, rfl⟩
theorem rsub_any (a b : Int) (w : World) : Calls Try.prog 32 #[.int .i64 a, .int .i64 b] w fun e w' => e = .returned (.int .i64 (subZ a b)) ∧ w = w' := by
  have ha := nearZ_bd a
  have hb := nearZ_bd b
  go_enter Try.func32, Try.ntmps32
  go_wp2_with (go_at_call 28; refine (rnear_any _ _).mono ?_; rintro e w' ⟨rfl, rfl⟩)
  go_ret
  exact ⟨rfl, rfl⟩
end Go.Proofs.Ytneablcgcdmgpaa
