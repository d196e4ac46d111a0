/-
  Numbers that are capped: near, sums and differences, in the program and in the document's answer, one contract each. No condition.
-/
import Derived.Test.YtpbghlobkdjpiaaDoorKit
import Derived.Test.YtpbghlobkdjpiaaDoorChecked
namespace Go.Proofs.YtpbghlobkdjpiaaDoor
open Go.ChangeShapes Go.WideShapes Go.ChangeAt Go.RowKit

/-- from 0 to the cap -/
def nearZ (n : Int) : Int := min (max n 0) 9007199254740991
theorem nearZ_bd (n : Int) : 0 ≤ nearZ n ∧ nearZ n ≤ 9007199254740991 := by unfold nearZ; omega
theorem nearZ_low {n : Int} (h : n < 0) : nearZ n = 0 := by unfold nearZ; omega
theorem nearZ_in {n : Int} (h : 0 ≤ n) (k : n ≤ 9007199254740991) : nearZ n = n := by unfold nearZ; omega
theorem nearZ_high {n : Int} (h : 9007199254740991 < n) : nearZ n = 9007199254740991 := by unfold nearZ; omega
def addZ (a b : Int) : Int := nearZ (nearZ a + nearZ b)
def subZ (a b : Int) : Int := nearZ (nearZ a - nearZ b)

theorem near_any (n : Int) (w : World) : Calls Tryd.prog 24 #[.int .i64 n] w fun e w' => e = .returned (.int .i64 (nearZ n)) ∧ w = w' := by
  by_cases h0 : n < 0
  · have H := Lib.hid (nearZ_low h0)
    go_enter Tryd.func24, Tryd.ntmps24
    go_wp2
    go_ret
    exact ⟨by rw [H.out]; rfl, rfl⟩
  · by_cases h1 : n ≤ 9007199254740991
    · have H := Lib.hid (nearZ_in (by omega) h1)
      go_enter Tryd.func24, Tryd.ntmps24
      go_wp2
      go_ret
      exact ⟨by rw [H.out]; rfl, rfl⟩
    · have H := Lib.hid (nearZ_high (n := n) (by omega))
      go_enter Tryd.func24, Tryd.ntmps24
      go_wp2
      go_ret
      exact ⟨by rw [H.out]; rfl, rfl⟩

theorem rnear_any (n : Int) (w : World) : Calls Tryd.prog 25 #[.int .i64 n] w fun e w' => e = .returned (.int .i64 (nearZ n)) ∧ w = w' := by
  by_cases h0 : n < 0
  · have H := Lib.hid (nearZ_low h0)
    go_enter Tryd.func25, Tryd.ntmps25
    go_wp2
    go_ret
    exact ⟨by rw [H.out]; rfl, rfl⟩
  · by_cases h1 : n ≤ 9007199254740991
    · have H := Lib.hid (nearZ_in (by omega) h1)
      go_enter Tryd.func25, Tryd.ntmps25
      go_wp2
      go_ret
      exact ⟨by rw [H.out]; rfl, rfl⟩
    · have H := Lib.hid (nearZ_high (n := n) (by omega))
      go_enter Tryd.func25, Tryd.ntmps25
      go_wp2
      go_ret
      exact ⟨by rw [H.out]; rfl, rfl⟩

theorem add_any (a b : Int) (w : World) : Calls Tryd.prog 22 #[.int .i64 a, .int .i64 b] w fun e w' => e = .returned (.int .i64 (addZ a b)) ∧ w = w' := by
  have ha := nearZ_bd a
  have hb := nearZ_bd b
  go_enter Tryd.func22, Tryd.ntmps22
  go_wp2_with (go_at_call 24; refine (near_any _ _).mono ?_; rintro e w' ⟨rfl, rfl⟩)
  go_ret
  exact ⟨rfl, rfl⟩
theorem sub_any (a b : Int) (w : World) : Calls Tryd.prog 23 #[.int .i64 a, .int .i64 b] w fun e w' => e = .returned (.int .i64 (subZ a b)) ∧ w = w' := by
  have ha := nearZ_bd a
  have hb := nearZ_bd b
  go_enter Tryd.func23, Tryd.ntmps23
  go_wp2_with (go_at_call 24; refine (near_any _ _).mono ?_; rintro e w' ⟨rfl, rfl⟩)
  go_ret
  exact ⟨rfl, rfl⟩
theorem radd_any (a b : Int) (w : World) : Calls Tryd.prog 18 #[.int .i64 a, .int .i64 b] w fun e w' => e = .returned (.int .i64 (addZ a b)) ∧ w = w' := by
  have ha := nearZ_bd a
  have hb := nearZ_bd b
  go_enter Tryd.func18, Tryd.ntmps18
  go_wp2_with (go_at_call 25; refine (rnear_any _ _).mono ?_; rintro e w' ⟨rfl, rfl⟩)
  go_ret
  exact ⟨rfl, rfl⟩
theorem rsub_any (a b : Int) (w : World) : Calls Tryd.prog 13 #[.int .i64 a, .int .i64 b] w fun e w' => e = .returned (.int .i64 (subZ a b)) ∧ w = w' := by
  have ha := nearZ_bd a
  have hb := nearZ_bd b
  go_enter Tryd.func13, Tryd.ntmps13
  go_wp2_with (go_at_call 25; refine (rnear_any _ _).mono ?_; rintro e w' ⟨rfl, rfl⟩)
  go_ret
  exact ⟨rfl, rfl⟩
end Go.Proofs.YtpbghlobkdjpiaaDoor
