/-
  A product, divided: the program's Part where the product fits one word. No condition but that.
-/
import Derived.Test.YteokhnkipandbaaNumTimes
import Derived.BigQuiet
namespace Go.Proofs.Yteokhnkipandbaa
open Go.ChangeShapes Go.WideShapes Go.ChangeAt Go.RowKit

/-- a product, divided by a number, capped -/
def partZ (a b c : Int) : Int := if nearZ c = 0 then 9007199254740991 else min (nearZ a * nearZ b / nearZ c) 9007199254740991
theorem partZ_nat {a b c : Int} {x y z : Nat} (hx : nearZ a = (x : Int)) (hy : nearZ b = (y : Int)) (hz : nearZ c = (z : Int)) : partZ a b c = if z = 0 then 9007199254740991 else ((min (x * y / z) 9007199254740991 : Nat) : Int) := by
  unfold partZ
  rw [hx, hy, hz, ← Int.natCast_mul, ← Int.natCast_ediv]
  by_cases h : z = 0
  · subst h; rfl
  · rw [if_neg (by omega), if_neg h]
    omega

set_option maxRecDepth 10000 in
theorem div64_small (lo y : Nat) (h0 : 0 < y) (w : World) (hlo : lo < 18446744073709551616) :
    Calls Try.prog 69 #[.int .u64 0, .int .u64 lo, .int .u64 y] w fun e w' => e = .returned (.tuple #[.int .u64 ((lo / y : Nat) : Int), .int .u64 ((lo % y : Nat) : Int)]) ∧ ∃ n, w' = w.drewN n := by
  have h1 : (0 : Int) < (y : Int) := by omega
  have hne : ((y : Int) == 0) = false := by simp; omega
  have hq : lo / y ≤ lo := Nat.div_le_self _ _
  have wq : IntKind.u64.wrap ((lo : Int) / (y : Int)) = ((lo / y : Nat) : Int) := by
    rw [show (lo : Int) / (y : Int) = ((lo / y : Nat) : Int) from rfl, IntKind.wrap_u64]
    generalize lo / y = q at hq ⊢
    omega
  go_enter Try.func69, Try.ntmps69
  go_wp2_with fail
  go_quiet (fail)
  go_wp2
  go_ret2
  exact ⟨rfl, nq, rfl⟩

theorem part_small (a b c : Int) (x y : Nat) (hx : nearZ a = (x : Int)) (hy : nearZ b = (y : Int)) (hp : x * y < 18446744073709551616) (w : World) :
    Calls Try.prog 32 #[.int .i64 a, .int .i64 b, .int .i64 c] w fun e w' => e = .returned (.int .i64 (partZ a b c)) ∧ ∃ n, w' = w.drewN n := by
  obtain ⟨z, hz, hzb⟩ := nearZ_nat c
  have H := Lib.hid (partZ_nat hx hy hz)
  have HZ := Lib.hid hz
  clear hz
  go_enter Try.func32, Try.ntmps32
  go_wp2_with fail
  refine (wide_any a b x y hx hy _).mono ?_
  rintro e w' ⟨rfl, rfl⟩
  rw [Nat.div_eq_of_lt hp, Nat.mod_eq_of_lt hp]
  clear hx hy
  generalize x * y = p at H hp ⊢
  go_wp2_with fail
  refine (near_any _ _).mono ?_
  rintro e w' ⟨rfl, rfl⟩
  rw [HZ.out]
  by_cases h0 : z = 0
  case pos =>
    subst h0
    rw [if_pos rfl] at H
    go_wp2_with fail
    go_ret
    exact ⟨by rw [H.out]; rfl, 0, rfl⟩
  rw [if_neg h0] at H
  have hz1 : ¬ (z : Int) ≤ 0 := by omega
  go_wp2_with fail
  refine (div64_small p z (by omega) _ hp).mono ?_
  rintro e w' ⟨rfl, n, rfl⟩
  have hq : p / z ≤ p := Nat.div_le_self _ _
  generalize p / z = q at H hq ⊢
  by_cases h2 : q ≤ 9007199254740991
  case pos =>
    have hm : min q 9007199254740991 = q := by omega
    rw [hm] at H
    have h3 : ¬ (9007199254740991 : Int) < (q : Int) := by omega
    have h4 : (0 : Int) ≤ (q : Int) := by omega
    go_wp2_with fail
    go_ret
    exact ⟨by rw [H.out]; rfl, n, rfl⟩
  have hm : min q 9007199254740991 = 9007199254740991 := by omega
  rw [hm] at H
  have h3 : (9007199254740991 : Int) < (q : Int) := by omega
  go_wp2_with fail
  go_ret
  exact ⟨by rw [H.out]; rfl, n, rfl⟩
end Go.Proofs.Yteokhnkipandbaa
