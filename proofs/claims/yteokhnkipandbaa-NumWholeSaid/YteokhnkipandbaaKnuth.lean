/-
  Long division of two words by one, a half word at a time: why each half of the quotient is right behind at most two corrections. No program in sight. No condition.
-/
import Derived.Test.YteokhnkipandbaaKit
namespace Go.Proofs.Yteokhnkipandbaa

section
variable {U u1 Y y1 y0 q r : Nat}
/-- what the trial's quotient and rest make, together with the divisor's lower half -/
theorem kn_sum (hY : Y = y1 * 4294967296 + y0) (hinv : q * y1 + r = U) : q * Y + 4294967296 * r = U * 4294967296 + q * y0 := by
  subst hY
  subst hinv
  rw [Nat.mul_add, Nat.add_mul, Nat.mul_assoc, Nat.mul_comm 4294967296 r]
  omega
theorem kn_lt (hU : U < Y) (hu : u1 < 4294967296) : (U * 4294967296 + u1) / Y < 4294967296 := by
  refine Nat.div_lt_of_lt_mul ?_
  have : (U + 1) * 4294967296 ≤ Y * 4294967296 := Nat.mul_le_mul_right _ hU
  omega
/-- the trial is not too great any more -/
theorem kn_le (hY : Y = y1 * 4294967296 + y0) (hpos : 0 < Y) (hinv : q * y1 + r = U) (hc : q * y0 ≤ 4294967296 * r + u1) : q ≤ (U * 4294967296 + u1) / Y := by
  have := kn_sum hY hinv
  rw [Nat.le_div_iff_mul_le hpos]
  omega
/-- it is too great: one less is not too small -/
theorem kn_down (hY : Y = y1 * 4294967296 + y0) (hpos : 0 < Y) (hU : U < Y) (hu : u1 < 4294967296) (hinv : q * y1 + r = U) (hc : 4294967296 ≤ q ∨ 4294967296 * r + u1 < q * y0) : (U * 4294967296 + u1) / Y + 1 ≤ q := by
  rcases hc with hc | hc
  · have := kn_lt hU hu
    omega
  · have := kn_sum hY hinv
    refine Nat.succ_le_of_lt ((Nat.div_lt_iff_lt_mul hpos).2 ?_)
    omega
/-- behind a break: the rest is more than half a word -/
theorem kn_break (hY : Y = y1 * 4294967296 + y0) (hpos : 0 < Y) (h0 : y0 < 4294967296) (hq : q ≤ 4294967296) (hinv : q * y1 + r = U) (hr : 4294967296 ≤ r) : q ≤ (U * 4294967296 + u1) / Y := by
  refine kn_le hY hpos hinv ?_
  have h1 : q * y0 ≤ 4294967296 * y0 := Nat.mul_le_mul_right _ hq
  have h2 : 4294967296 * y0 ≤ 4294967296 * r := Nat.mul_le_mul_left _ (by omega)
  omega
/-- the first trial -/
theorem kn_first0 {Q : Nat} (hpos : 0 < y1) (h1 : Q * (y1 * 4294967296 + y0) ≤ U * 4294967296 + u1) (hu : u1 < 4294967296) : Q ≤ U / y1 := by
  rw [Nat.le_div_iff_mul_le hpos]
  rw [Nat.mul_add, ← Nat.mul_assoc] at h1
  have h2 : Q * y1 * 4294967296 ≤ U * 4294967296 + u1 := Nat.le_trans (Nat.le_add_right _ _) h1
  generalize Q * y1 = P at h2 ⊢
  omega
theorem kn_first (hY : Y = y1 * 4294967296 + y0) (hy1 : 2147483648 ≤ y1) (h0 : y0 < 4294967296) (hU : U < Y) (hu : u1 < 4294967296) : (U * 4294967296 + u1) / Y ≤ U / y1 ∧ U / y1 ≤ 4294967297 := by
  have hpos : 0 < y1 := by omega
  constructor
  · subst hY
    exact kn_first0 hpos (Nat.div_mul_le_self _ _) hu
  · have h2 : U / y1 < 4294967298 := by
      refine Nat.div_lt_of_lt_mul ?_
      have h1 : y1 * 4294967296 + y0 < 4294967298 * y1 := by omega
      subst hY
      rw [Nat.mul_comm]
      omega
    omega
/-- the rest behind a half of the quotient -/
theorem kn_rest : U * 4294967296 + u1 - (U * 4294967296 + u1) / Y * Y = (U * 4294967296 + u1) % Y := by
  have := Nat.div_add_mod (U * 4294967296 + u1) Y
  rw [Nat.mul_comm] at this
  omega
/-- the two halves of the quotient, put together -/
theorem kn_two {B Q R N : Nat} (u0 : Nat) (hpos : 0 < Y) (h : Y * Q + R = N) : Q * B + (R * B + u0) / Y = (N * B + u0) / Y := by
  have e : N * B + u0 = (R * B + u0) + Y * (Q * B) := by
    rw [← h, Nat.add_mul, Nat.mul_assoc]
    omega
  rw [e, Nat.add_mul_div_left _ _ hpos, Nat.add_comm]
theorem kn_two_rest {B Q R N : Nat} (u0 : Nat) (h : Y * Q + R = N) : (R * B + u0) % Y = (N * B + u0) % Y := by
  have e : N * B + u0 = (R * B + u0) + Y * (Q * B) := by
    rw [← h, Nat.add_mul, Nat.mul_assoc]
    omega
  rw [e, Nat.add_mul_mod_self_left]
/-- all that a half of the division needs, of its quotient and rest -/
theorem kn_pack (hY : Y = y1 * 4294967296 + y0) (hy1 : 2147483648 ≤ y1) (h0 : y0 < 4294967296) (hU : U < Y) (hu : u1 < 4294967296) : ∃ Q R : Nat, Y * Q + R = U * 4294967296 + u1 ∧ R < Y ∧ Q < 4294967296 ∧ Q ≤ U / y1 ∧ U / y1 ≤ 4294967297 ∧
    (∀ q r : Nat, q * y1 + r = U → q * y0 ≤ 4294967296 * r + u1 → q ≤ Q) ∧ (∀ q r : Nat, q * y1 + r = U → (4294967296 ≤ q ∨ 4294967296 * r + u1 < q * y0) → Q + 1 ≤ q) ∧ (∀ q r : Nat, q ≤ 4294967296 → q * y1 + r = U → 4294967296 ≤ r → q ≤ Q) :=
  ⟨(U * 4294967296 + u1) / Y, (U * 4294967296 + u1) % Y, Nat.div_add_mod _ _, Nat.mod_lt _ (by omega), kn_lt hU hu, (kn_first hY hy1 h0 hU hu).1, (kn_first hY hy1 h0 hU hu).2,
    fun _ _ h1 h2 => kn_le hY (by omega) h1 h2, fun _ _ h1 h2 => kn_down hY (by omega) hU hu h1 h2, fun _ _ h3 h1 h2 => kn_break hY (by omega) h0 h3 h1 h2⟩
theorem kn_final {B Q R N Q0 R0 : Nat} (u0 : Nat) (h : Y * Q + R = N) (h2 : Y * Q0 + R0 = R * B + u0) (hR : R0 < Y) : Q * B + Q0 = (N * B + u0) / Y := by
  have hpos : 0 < Y := by omega
  rw [← kn_two u0 hpos h, ← h2, Nat.mul_add_div hpos, Nat.div_eq_of_lt hR]
  omega
end
end Go.Proofs.Yteokhnkipandbaa
