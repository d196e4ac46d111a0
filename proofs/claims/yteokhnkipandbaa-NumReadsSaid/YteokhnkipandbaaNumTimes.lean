/-
  Products that are capped, and masks, in the program and in the document's answer. No condition.
-/
import Derived.Test.YteokhnkipandbaaNumSums
import Derived.Shelf.Bits.Mul64
import Derived.LoopTactic
namespace Go.Proofs.Yteokhnkipandbaa
open Go.ChangeShapes Go.WideShapes Go.ChangeAt Go.RowKit Go.Lib

set_option maxHeartbeats 1000000 in
theorem mul64_any (x y : Nat) (hx : x < 18446744073709551616) (hy : y < 18446744073709551616) (w : World) :
    Calls Try.prog 87 #[.int .u64 x, .int .u64 y] w fun e w' => e = .returned (.tuple #[.int .u64 ((x * y / 18446744073709551616 : Nat) : Int), .int .u64 ((x * y % 18446744073709551616 : Nat) : Int)]) ∧ w = w' := by
  obtain ⟨bd, bt, bw, hhi⟩ := Lib.mul64_hi x y hx hy
  have ba := Lib.half_mul_le (a := x / 4294967296) (b := y / 4294967296) (by omega) (by omega)
  have bb := Lib.half_mul_le (a := x / 4294967296) (b := y % 4294967296) (by omega) (by omega)
  have bc := Lib.half_mul_le (a := x % 4294967296) (b := y / 4294967296) (by omega) (by omega)
  have hxy : x * y / 18446744073709551616 < 18446744073709551616 := by
    refine Nat.div_lt_of_lt_mul ?_
    have h1 : x * y ≤ 18446744073709551615 * y := Nat.mul_le_mul_right _ (by omega)
    omega
  rw [← hhi] at hxy
  have ba' : x / 4294967296 * (y / 4294967296) < 18446744073709551616 := by omega
  have bb' : x / 4294967296 * (y % 4294967296) < 18446744073709551616 := by omega
  have bc' : x % 4294967296 * (y / 4294967296) < 18446744073709551616 := by omega
  have bh1 : x / 4294967296 * (y / 4294967296) + (x / 4294967296 * (y % 4294967296) + x % 4294967296 * (y % 4294967296) / 4294967296) / 4294967296 < 18446744073709551616 := by omega
  go_enter Try.func87, Try.ntmps87
  go_wp2
  simp only [Mul64.maskN x hx, Mul64.maskN y hy, Mul64.divN, Mul64.mulN, Mul64.addN, Mul64.wrapN _ bd, Mul64.wrapN _ bb', Mul64.wrapN _ bt, Mul64.maskN _ bt, Mul64.wrapN _ bc', Mul64.wrapN _ bw, Mul64.wrapN _ ba', Mul64.wrapN _ bh1, Mul64.wrapN _ hxy, Mul64.wrapM (x * y)]
  rw [hhi]
  go_ret2
  exact ⟨rfl, rfl⟩

/-- a product, capped -/
def timesZ (a b : Int) : Int := min (nearZ a * nearZ b) 9007199254740991
theorem nearZ_nat (a : Int) : ∃ x : Nat, nearZ a = (x : Int) ∧ x ≤ 9007199254740991 := by
  have := nearZ_bd a
  exact ⟨(nearZ a).toNat, by omega, by omega⟩
theorem timesZ_nat {a b : Int} {x y : Nat} (hx : nearZ a = (x : Int)) (hy : nearZ b = (y : Int)) : timesZ a b = ((min (x * y) 9007199254740991 : Nat) : Int) := by
  unfold timesZ
  rw [hx, hy, ← Int.natCast_mul]
  omega
theorem wide_any (a b : Int) (x y : Nat) (hx : nearZ a = (x : Int)) (hy : nearZ b = (y : Int)) (w : World) :
    Calls Try.prog 68 #[.int .i64 a, .int .i64 b] w fun e w' => e = .returned (.tuple #[.int .u64 ((x * y / 18446744073709551616 : Nat) : Int), .int .u64 ((x * y % 18446744073709551616 : Nat) : Int)]) ∧ w = w' := by
  have hxb := nearZ_bd a
  have hyb := nearZ_bd b
  rw [hx] at hxb
  rw [hy] at hyb
  have HX := Lib.hid hx
  have HY := Lib.hid hy
  clear hx hy
  go_enter Try.func68, Try.ntmps68
  go_wp2_with fail
  refine (near_any _ _).mono ?_
  rintro e w' ⟨rfl, rfl⟩
  rw [HX.out]
  go_wp2_with fail
  refine (near_any _ _).mono ?_
  rintro e w' ⟨rfl, rfl⟩
  rw [HY.out]
  go_wp2_with fail
  refine (mul64_any x y (by omega) (by omega) _).mono ?_
  rintro e w' ⟨rfl, rfl⟩
  go_wp2_with fail
  go_ret2
  exact ⟨rfl, rfl⟩
theorem times_any (a b : Int) (w : World) : Calls Try.prog 30 #[.int .i64 a, .int .i64 b] w fun e w' => e = .returned (.int .i64 (timesZ a b)) ∧ w = w' := by
  obtain ⟨x, hx, hxb⟩ := nearZ_nat a
  obtain ⟨y, hy, hyb⟩ := nearZ_nat b
  have H := Lib.hid (timesZ_nat hx hy)
  go_enter Try.func30, Try.ntmps30
  go_wp2_with fail
  refine (wide_any a b x y hx hy _).mono ?_
  rintro e w' ⟨rfl, rfl⟩
  clear hx hy hxb hyb
  generalize x * y = p at H ⊢
  by_cases h1 : p < 18446744073709551616
  case neg =>
    have hm : min p 9007199254740991 = 9007199254740991 := by omega
    have hq : 1 ≤ p / 18446744073709551616 := by omega
    have hd : (((p / 18446744073709551616 : Nat) : Int) != 0) = true := by simp; omega
    rw [hm] at H
    generalize p / 18446744073709551616 = q at hq hd ⊢
    go_wp2_with fail
    go_ret
    exact ⟨by rw [H.out]; rfl, rfl⟩
  rw [Nat.div_eq_of_lt h1, Nat.mod_eq_of_lt h1]
  by_cases h2 : p ≤ 9007199254740991
  case pos =>
    have hm : min p 9007199254740991 = p := by omega
    rw [hm] at H
    have h3 : ¬ (9007199254740991 : Int) < (p : Int) := by omega
    have h4 : (0 : Int) ≤ (p : Int) := by omega
    go_wp2_with fail
    go_ret
    exact ⟨by rw [H.out]; rfl, rfl⟩
  have hm : min p 9007199254740991 = 9007199254740991 := by omega
  rw [hm] at H
  have h3 : (9007199254740991 : Int) < (p : Int) := by omega
  go_wp2_with fail
  go_ret
  exact ⟨by rw [H.out]; rfl, rfl⟩

theorem rtimes_any (a b : Int) (w : World) : Calls Try.prog 31 #[.int .i64 a, .int .i64 b] w fun e w' => e = .returned (.int .i64 (timesZ a b)) ∧ w = w' := by
  obtain ⟨x, hx, hxb⟩ := nearZ_nat a
  obtain ⟨y, hy, hyb⟩ := nearZ_nat b
  have H := Lib.hid (timesZ_nat hx hy)
  have HX := Lib.hid hx
  have HY := Lib.hid hy
  clear hx hy
  go_enter Try.func31, Try.ntmps31
  go_wp2_with fail
  refine (rnear_any _ _).mono ?_
  rintro e w' ⟨rfl, rfl⟩
  rw [HX.out]
  go_wp2_with fail
  refine (rnear_any _ _).mono ?_
  rintro e w' ⟨rfl, rfl⟩
  rw [HY.out]
  by_cases h0 : x = 0
  case pos =>
    subst h0
    rw [Nat.zero_mul] at H
    go_wp2_with fail
    go_ret
    exact ⟨by rw [H.out]; rfl, rfl⟩
  have hx0 : (0 : Int) < (x : Int) := by omega
  have hx1 : ¬ (x : Int) = 0 := by omega
  have hq : (9007199254740991 : Int).tdiv (x : Int) = ((9007199254740991 / x : Nat) : Int) := rfl
  have hq2 : (9007199254740991 : Int) / (x : Int) = ((9007199254740991 / x : Nat) : Int) := rfl
  have hdiv := Nat.le_div_iff_mul_le (x := y) (y := 9007199254740991) (show 0 < x by omega)
  rw [Nat.mul_comm y x] at hdiv
  have hqb : 9007199254740991 / x ≤ 9007199254740991 := Nat.div_le_self _ _
  have hw : x * y ≤ 9007199254740991 → IntKind.i64.wrap ((x : Int) * (y : Int)) = ((x * y : Nat) : Int) := fun h => by
    rw [← Int.natCast_mul]
    exact IntWalk.i64_in _ (by omega)
  generalize 9007199254740991 / x = q at hq hq2 hdiv hqb
  by_cases hyq : y ≤ q
  case pos =>
    have hle := hdiv.1 hyq
    have hm : min (x * y) 9007199254740991 = x * y := by omega
    rw [hm] at H
    have hw := hw hle
    have hlt : ¬ (q : Int) < (y : Int) := by omega
    clear hdiv hm
    generalize x * y = p at H hw hle
    go_wp2_with fail
    go_ret
    exact ⟨by rw [H.out]; rfl, rfl⟩
  have hgt : ¬ x * y ≤ 9007199254740991 := fun h => hyq (hdiv.2 h)
  have hm : min (x * y) 9007199254740991 = 9007199254740991 := by omega
  rw [hm] at H
  have hlt : (q : Int) < (y : Int) := by omega
  clear hdiv hm hw hgt hyq
  go_wp2_with fail
  go_ret
  exact ⟨by rw [H.out]; rfl, rfl⟩

/-- the highest bits -/
def maskZ (n : Int) : Int := 4294967296 - 2 ^ (32 - min (max n 0) 32).toNat
theorem mask_val (m : Nat) (h : m ≤ 32) : IntKind.u64.wrap (18446744073709551615 * 2 ^ m) % 4294967296 = 4294967296 - 2 ^ m := by
  have : ∀ m : Fin 33, IntKind.u64.wrap (18446744073709551615 * 2 ^ m.val) % 4294967296 = (4294967296 : Int) - 2 ^ m.val := by decide +kernel
  exact this ⟨m, by omega⟩
theorem mask_any (n : Int) (w : World) : Calls Try.prog 34 #[.int .i64 n] w fun e w' => e = .returned (.int .u32 (maskZ n)) ∧ w = w' := by
  by_cases h0 : n < 0
  · have H := Lib.hid (show maskZ n = 0 by unfold maskZ; rw [show min (max n 0) 32 = 0 by omega]; rfl)
    go_enter Try.func34, Try.ntmps34
    go_wp2
    go_ret
    exact ⟨by rw [H.out]; rfl, rfl⟩
  · by_cases h1 : n ≤ 32
    · have H := Lib.hid (show maskZ n = IntKind.u64.wrap (18446744073709551615 * 2 ^ (32 - n).toNat) % 4294967296 by unfold maskZ; rw [mask_val _ (by omega), show min (max n 0) 32 = n by omega])
      go_enter Try.func34, Try.ntmps34
      go_wp2
      go_ret
      exact ⟨by rw [H.out]; rfl, rfl⟩
    · have H := Lib.hid (show maskZ n = 4294967295 by unfold maskZ; rw [show min (max n 0) 32 = 32 by omega]; rfl)
      go_enter Try.func34, Try.ntmps34
      go_wp2
      go_ret
      exact ⟨by rw [H.out]; rfl, rfl⟩

theorem mask_step (k : Nat) (h : k < 32) : ((4294967296 - 2 ^ (32 - k) + 2 ^ (31 - k) % 4294967296) % 4294967296 : Int) = 4294967296 - 2 ^ (32 - (k + 1)) := by
  have : ∀ k : Fin 32, ((4294967296 - 2 ^ (32 - k.val) + 2 ^ (31 - k.val) % 4294967296) % 4294967296 : Int) = 4294967296 - 2 ^ (32 - (k.val + 1)) := by decide +kernel
  exact this ⟨k, h⟩
set_option maxRecDepth 10000 in
theorem rmask_any (n : Int) (w : World) : Calls Try.prog 35 #[.int .i64 n] w fun e w' => e = .returned (.int .u32 (maskZ n)) ∧ w = w' := by
  go_enter Try.func35, Try.ntmps35
  go_wp2
  go_loop [3, 4] (fun x i => ∃ k : Nat, k ≤ 32 ∧ (k : Int) ≤ max n 0 ∧ i = .int .i64 k ∧ x = .int .u32 (4294967296 - 2 ^ (32 - k))) (fun _ i => 32 - (intOf i).toNat)
  case atStart => exact ⟨0, by omega, by omega, rfl, rfl⟩
  case round =>
    obtain ⟨k, hk, hkn, rfl, rfl⟩ := hrel
    by_cases h1 : (k : Int) < n
    case neg =>
      have H := Lib.hid (show maskZ n = 4294967296 - 2 ^ (32 - k) by unfold maskZ; rw [show (32 - min (max n 0) 32).toNat = 32 - k by omega])
      clear hkn
      go_wp2
      go_ret
      exact ⟨by rw [H.out]; rfl, rfl⟩
    by_cases h2 : (k : Int) < 32
    case neg =>
      have H := Lib.hid (show maskZ n = 4294967296 - 2 ^ (32 - k) by unfold maskZ; rw [show (32 - min (max n 0) 32).toNat = 32 - k by omega])
      clear hkn
      go_wp2
      go_ret
      exact ⟨by rw [H.out]; rfl, rfl⟩
    have HS := Lib.hid (mask_step k (by omega))
    have h3 : (0 : Int) ≤ 31 - (k : Int) := by omega
    go_wp2
    exact ⟨⟨k + 1, by omega, by omega, by simp, by rw [HS.out]⟩, by simp [intOf]; omega⟩
end Go.Proofs.Yteokhnkipandbaa
