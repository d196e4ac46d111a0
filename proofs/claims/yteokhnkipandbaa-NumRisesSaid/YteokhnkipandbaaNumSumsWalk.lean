/-
  Sums, differences and products of any two numbers, capped; they do not hang on the order, and rise: the walks. No condition.
-/
import Derived.Test.YteokhnkipandbaaNumLives
namespace Go.Proofs.Yteokhnkipandbaa
open Go.ChangeShapes Go.WideShapes Go.ChangeAt Go.RowKit

theorem num_sums_walk (a b : Int) (w : World) : Calls Try.prog 4 #[.int .i64 a, .int .i64 b] w fun e w' => e = .returned (.bool true) ∧ Below w.heap.size w w' := by
  go_enter Try.func4, Try.ntmps4
  go_wp2_with fail
  refine (num_lives _).mono ?_
  rintro e W ⟨rfl, hb⟩
  go_wp2_with fail
  refine (near_any _ _).mono ?_
  rintro e w' ⟨rfl, rfl⟩
  go_wp2_with fail
  refine (rnear_any _ _).mono ?_
  rintro e w' ⟨rfl, rfl⟩
  go_wp2_with fail
  refine (add_any _ _ _).mono ?_
  rintro e w' ⟨rfl, rfl⟩
  go_wp2_with fail
  refine (radd_any _ _ _).mono ?_
  rintro e w' ⟨rfl, rfl⟩
  go_wp2_with fail
  refine (sub_any _ _ _).mono ?_
  rintro e w' ⟨rfl, rfl⟩
  go_wp2_with fail
  refine (rsub_any _ _ _).mono ?_
  rintro e w' ⟨rfl, rfl⟩
  go_wp2_with fail
  refine (times_any _ _ _).mono ?_
  rintro e w' ⟨rfl, rfl⟩
  go_wp2_with fail
  refine (rtimes_any _ _ _).mono ?_
  rintro e w' ⟨rfl, rfl⟩
  go_wp2_with fail
  go_ret
  exact ⟨rfl, hb⟩

theorem nearZ_mono {a b : Int} (h : a ≤ b) : nearZ a ≤ nearZ b := by unfold nearZ; omega
theorem nearZ_near (a : Int) : nearZ (nearZ a) = nearZ a := by unfold nearZ; omega
theorem addZ_comm (a b : Int) : addZ a b = addZ b a := by unfold addZ; rw [Int.add_comm]
theorem timesZ_comm (a b : Int) : timesZ a b = timesZ b a := by unfold timesZ; rw [Int.mul_comm]
theorem addZ_mono {a b : Int} (c : Int) (h : a ≤ b) : addZ a c ≤ addZ b c := by
  have := nearZ_mono h
  exact nearZ_mono (by omega)
theorem timesZ_mono {a b : Int} (c : Int) (h : a ≤ b) : timesZ a c ≤ timesZ b c := by
  have h1 := nearZ_mono h
  have h2 := Int.mul_le_mul_of_nonneg_right h1 (nearZ_bd c).1
  unfold timesZ
  omega
theorem subZ_add0 {a b : Int} (h : a ≤ b) : subZ (addZ a 0) b = 0 := by
  have h1 := nearZ_mono h
  have h0 : nearZ 0 = 0 := rfl
  have h2 : addZ a 0 = nearZ a := by unfold addZ; rw [h0, Int.add_zero, nearZ_near]
  unfold subZ
  rw [h2, nearZ_near]
  generalize nearZ a = x at h1 ⊢
  generalize nearZ b = y at h1 ⊢
  unfold nearZ
  omega

theorem num_rises_walk (a b c : Int) (w : World) : Calls Try.prog 6 #[.int .i64 a, .int .i64 b, .int .i64 c] w fun e w' => e = .returned (.bool true) ∧ Below w.heap.size w w' := by
  by_cases h : b < a
  case pos =>
    go_enter Try.func6, Try.ntmps6
    go_wp2_with fail
    refine (num_lives _).mono ?_
    rintro e W ⟨rfl, hb⟩
    go_wp2_with fail
    go_ret
    exact ⟨rfl, hb⟩
  have h : a ≤ b := by omega
  have h1 := addZ_mono c h
  have h2 := timesZ_mono c h
  have h3 := Lib.hid (subZ_add0 h)
  go_enter Try.func6, Try.ntmps6
  go_wp2_with fail
  refine (num_lives _).mono ?_
  rintro e W ⟨rfl, hb⟩
  go_wp2_with fail
  refine (add_any a c _).mono ?_
  rintro e w' ⟨rfl, rfl⟩
  go_wp2_with fail
  refine (add_any c a _).mono ?_
  rintro e w' ⟨he, rfl⟩
  rw [addZ_comm c a] at he
  subst he
  go_wp2_with fail
  refine (times_any a c _).mono ?_
  rintro e w' ⟨rfl, rfl⟩
  go_wp2_with fail
  refine (times_any c a _).mono ?_
  rintro e w' ⟨he, rfl⟩
  rw [timesZ_comm c a] at he
  subst he
  go_wp2_with fail
  refine (add_any a c _).mono ?_
  rintro e w' ⟨rfl, rfl⟩
  go_wp2_with fail
  refine (add_any b c _).mono ?_
  rintro e w' ⟨rfl, rfl⟩
  go_wp2_with fail
  refine (times_any a c _).mono ?_
  rintro e w' ⟨rfl, rfl⟩
  go_wp2_with fail
  refine (times_any b c _).mono ?_
  rintro e w' ⟨rfl, rfl⟩
  go_wp2_with fail
  refine (add_any a 0 _).mono ?_
  rintro e w' ⟨rfl, rfl⟩
  go_wp2_with fail
  refine (sub_any _ b _).mono ?_
  rintro e w' ⟨he, rfl⟩
  rw [h3.out] at he
  subst he
  go_wp2_with fail
  go_ret
  exact ⟨rfl, hb⟩
end Go.Proofs.Yteokhnkipandbaa
