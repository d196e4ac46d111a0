/-
  A mask has just so many highest bits, and two masks stand one within the other: the walk. No condition.
-/
import Derived.Test.YteokhnkipandbaaNumLives
import Derived.LoopTactic
namespace Go.Proofs.Yteokhnkipandbaa
open Go.ChangeShapes Go.WideShapes Go.ChangeAt Go.RowKit

theorem maskZ_in (a : Nat) (h : a ≤ 32) : maskZ a = 4294967296 - 2 ^ (32 - a) := by
  unfold maskZ
  rw [show (32 - min (max (a : Int) 0) 32).toNat = 32 - a by omega]
theorem mask_and (a b : Nat) (h : a ≤ b) (hb : b ≤ 32) : bits .and .u32 (maskZ a) (maskZ b) = maskZ a := by
  rw [maskZ_in a (by omega), maskZ_in b hb]
  have : ∀ b : Fin 33, ∀ a : Fin 33, a.val ≤ b.val → bits .and .u32 (4294967296 - 2 ^ (32 - a.val) : Int) (4294967296 - 2 ^ (32 - b.val) : Int) = 4294967296 - 2 ^ (32 - a.val) := by decide +kernel
  exact this ⟨b, by omega⟩ ⟨a, by omega⟩ h
theorem mask_bit (a i : Nat) (ha : a ≤ 32) (hi : i < 32) : bits .and .u32 (maskZ a / 2 ^ i) 1 = if 32 - a ≤ i then 1 else 0 := by
  rw [maskZ_in a ha]
  have : ∀ a : Fin 33, ∀ i : Fin 32, bits .and .u32 ((4294967296 - 2 ^ (32 - a.val) : Int) / 2 ^ i.val) 1 = if 32 - a.val ≤ i.val then 1 else 0 := by decide +kernel
  exact this ⟨a, by omega⟩ ⟨i, hi⟩

set_option maxRecDepth 10000 in
theorem num_masks_walk (a b : Int) (w : World) : Calls Try.prog 7 #[.int .i64 a, .int .i64 b] w fun e w' => e = .returned (.bool true) ∧ Below w.heap.size w w' := by
  by_cases h0 : a < 0
  case pos =>
    go_enter Try.func7, Try.ntmps7
    go_wp2_with fail
    refine (num_lives _).mono ?_
    rintro e W ⟨rfl, hb⟩
    go_wp2_with fail
    go_ret
    exact ⟨rfl, hb⟩
  by_cases h1 : b < a
  case pos =>
    go_enter Try.func7, Try.ntmps7
    go_wp2_with fail
    refine (num_lives _).mono ?_
    rintro e W ⟨rfl, hb⟩
    go_wp2_with fail
    go_ret
    exact ⟨rfl, hb⟩
  by_cases h2 : 32 < b
  case pos =>
    go_enter Try.func7, Try.ntmps7
    go_wp2_with fail
    refine (num_lives _).mono ?_
    rintro e W ⟨rfl, hb⟩
    go_wp2_with fail
    go_ret
    exact ⟨rfl, hb⟩
  obtain ⟨x, rfl⟩ := Int.eq_ofNat_of_zero_le (show 0 ≤ a by omega)
  obtain ⟨y, rfl⟩ := Int.eq_ofNat_of_zero_le (show 0 ≤ b by omega)
  have hx : x ≤ 32 := by omega
  have hand := mask_and x y (by omega) (by omega)
  have hbit := Lib.hid (mask_bit x)
  go_enter Try.func7, Try.ntmps7
  go_wp2_with fail
  refine (mask_any _ _).mono ?_
  rintro e w' ⟨rfl, rfl⟩
  go_wp2_with fail
  refine (mask_any _ _).mono ?_
  rintro e w' ⟨rfl, rfl⟩
  generalize maskZ x = X at hand hbit ⊢
  generalize maskZ y = Y at hand ⊢
  go_wp2_with fail
  go_loop [7, 8] (fun n i => ∃ k : Nat, k ≤ 32 ∧ i = .int .i64 k ∧ n = .int .i64 ((k - (32 - x) : Nat) : Int)) (fun _ i => 32 - (intOf i).toNat)
  case atStart => exact ⟨0, by omega, rfl, by simp⟩
  case round =>
    obtain ⟨k, hk, rfl, rfl⟩ := hrel
    by_cases hk32 : k < 32
    case pos =>
      have hb := hbit.out k hx hk32
      have k0 : (0 : Int) ≤ (k : Int) := by omega
      have k1 : (k : Int) < 32 := by omega
      by_cases hbk : 32 - x ≤ k
      case pos =>
        rw [if_pos hbk] at hb
        go_wp2_with fail
        exact ⟨⟨k + 1, by omega, by simp, by congr 1; omega⟩, by simp [intOf]; omega⟩
      rw [if_neg hbk] at hb
      go_wp2_with fail
      exact ⟨⟨k + 1, by omega, by simp, by congr 1; omega⟩, by simp [intOf]; omega⟩
    have e : k = 32 := by omega
    subst e
    have hn : ((32 - (32 - x) : Nat) : Int) = (x : Int) := by omega
    rw [hn]
    go_wp2_with fail
    refine (num_lives _).mono ?_
    rintro e W ⟨rfl, hb⟩
    go_wp2_with fail
    go_ret
    exact ⟨rfl, hb⟩
end Go.Proofs.Yteokhnkipandbaa
