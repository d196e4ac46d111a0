/-
  Two words and a divisor, moved up till the divisor's highest bit is 1: the numbers of math/bits' Div64 ahead of its loops. No program in sight. No condition but that the quotient fits.
-/
import Derived.Test.YteokhnkipandbaaKnuth
import Derived.WalkKit
import Derived.Laws.Bits64b
import Derived.Lib.ItoaNum
import Derived.Shelf.Bits.Mul64
namespace Go.Proofs.Yteokhnkipandbaa

theorem bitLen_bd {y : Nat} (h0 : 0 < y) (h : y < 18446744073709551616) : 1 ≤ Lib.bitLen y ∧ Lib.bitLen y ≤ 64 ∧ 2 ^ (Lib.bitLen y - 1) ≤ y ∧ y < 2 ^ Lib.bitLen y := by
  obtain ⟨h1, h2, h3⟩ := Lib.bitLenAux_bounds 64 y h (by omega)
  exact ⟨h1, Lib.bitLen_le y 64 (by omega) h, h2, h3⟩

/-- what holds of the numbers, moved up by s bits -/
structure DivN (hi lo y s Y U V : Nat) : Prop where
  eY : y * 2 ^ s = Y
  loY : 9223372036854775808 ≤ Y
  hiY : Y < 18446744073709551616
  eU : hi * 2 ^ s + lo / 2 ^ (64 - s) = U
  eV : lo * 2 ^ s % 18446744073709551616 = V
  hU : U < Y
  eN : (hi * 18446744073709551616 + lo) * 2 ^ s = U * 18446744073709551616 + V

theorem divN_of {hi lo y s : Nat} (hs : s ≤ 63) (hhy : hi < y) (hlo : lo < 18446744073709551616) (h1 : 9223372036854775808 ≤ y * 2 ^ s) (h2 : y * 2 ^ s < 18446744073709551616) :
    DivN hi lo y s (y * 2 ^ s) (hi * 2 ^ s + lo / 2 ^ (64 - s)) (lo * 2 ^ s % 18446744073709551616) := by
  have hp : 2 ^ (64 - s) * 2 ^ s = 18446744073709551616 := by rw [← Nat.pow_add, show 64 - s + s = 64 by omega]
  have hd : lo * 2 ^ s / 18446744073709551616 = lo / 2 ^ (64 - s) := by rw [← hp, Nat.mul_div_mul_right _ _ (Nat.two_pow_pos s)]
  have hm := Nat.div_add_mod (lo * 2 ^ s) 18446744073709551616
  rw [hd] at hm
  have e0 : (hi * 18446744073709551616 + lo) * 2 ^ s = hi * 2 ^ s * 18446744073709551616 + lo * 2 ^ s := by rw [Nat.add_mul, Nat.mul_right_comm]
  have eN : (hi * 18446744073709551616 + lo) * 2 ^ s = (hi * 2 ^ s + lo / 2 ^ (64 - s)) * 18446744073709551616 + lo * 2 ^ s % 18446744073709551616 := by
    rw [e0, Nat.add_mul]
    omega
  refine ⟨rfl, h1, h2, rfl, rfl, ?_, eN⟩
  have hlt : (hi * 18446744073709551616 + lo) * 2 ^ s < y * 18446744073709551616 * 2 ^ s := Nat.mul_lt_mul_of_pos_right (by omega) (Nat.two_pow_pos s)
  rw [eN, Nat.mul_right_comm] at hlt
  generalize hi * 2 ^ s + lo / 2 ^ (64 - s) = U at hlt ⊢
  generalize y * 2 ^ s = Y at hlt ⊢
  omega

theorem divN_quo {hi lo y s Y U V u1 u0 : Nat} (h : DivN hi lo y s Y U V) (hV : V = u1 * 4294967296 + u0) : ((U * 4294967296 + u1) * 4294967296 + u0) / Y = (hi * 18446744073709551616 + lo) / y := by
  have e : (U * 4294967296 + u1) * 4294967296 + u0 = (hi * 18446744073709551616 + lo) * 2 ^ s := by rw [h.eN, hV]; omega
  rw [e, ← h.eY, Nat.mul_div_mul_right _ _ (Nat.two_pow_pos s)]

theorem divN_dLo (lo s : Nat) : (lo : Int) / 2 ^ (64 - s) = ((lo / 2 ^ (64 - s) : Nat) : Int) := by simp
section
variable {hi lo y s Y U V : Nat} (h : DivN hi lo y s Y U V)
include h
theorem DivN.wY : IntKind.u64.wrap ((y : Int) * 2 ^ s) = (Y : Int) := by
  have e : (y : Int) * 2 ^ s = ((y * 2 ^ s : Nat) : Int) := by simp
  rw [e, h.eY, IntKind.wrap_u64]
  have := h.hiY
  omega
theorem DivN.wH (hhy : hi < y) : IntKind.u64.wrap ((hi : Int) * 2 ^ s) = ((hi * 2 ^ s : Nat) : Int) := by
  have e : (hi : Int) * 2 ^ s = ((hi * 2 ^ s : Nat) : Int) := by simp
  have h1 : hi * 2 ^ s ≤ y * 2 ^ s := Nat.mul_le_mul_right _ (by omega)
  rw [h.eY] at h1
  have := h.hiY
  rw [e, IntKind.wrap_u64]
  generalize hi * 2 ^ s = X at h1 ⊢
  omega
theorem DivN.wV : IntKind.u64.wrap ((lo : Int) * 2 ^ s) = (V : Int) := by
  have e : (lo : Int) * 2 ^ s = ((lo * 2 ^ s : Nat) : Int) := by simp
  rw [e, ← h.eV, IntKind.wrap_u64]
  omega
theorem DivN.oU (hs : s ≤ 63) (hhy : hi < y) (hlo : lo < 18446744073709551616) : bits .or .u64 ((hi * 2 ^ s : Nat) : Int) ((lo / 2 ^ (64 - s) : Nat) : Int) = (U : Int) := by
  have h1 : hi * 2 ^ s ≤ y * 2 ^ s := Nat.mul_le_mul_right _ (by omega)
  rw [h.eY] at h1
  have h2 := h.hiY
  have h3 : lo / 2 ^ (64 - s) ≤ lo := Nat.div_le_self _ _
  have hp : 2 ^ (64 - s) * 2 ^ s = 18446744073709551616 := by rw [← Nat.pow_add, show 64 - s + s = 64 by omega]
  have h4 : lo / 2 ^ (64 - s) < 2 ^ s := Nat.div_lt_of_lt_mul (by rw [hp]; exact hlo)
  rw [bits_or_u64_nat _ _ (by omega) (by omega), Nat.mul_comm hi, ← Nat.two_pow_add_eq_or_of_lt h4, Nat.mul_comm, h.eU]
end
end Go.Proofs.Yteokhnkipandbaa
