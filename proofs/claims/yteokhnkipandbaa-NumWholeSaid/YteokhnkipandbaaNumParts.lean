/-
  A product of any two numbers, divided by any third one: the program's Part and the document's, and the walks of 'NumParts' and 'NumWhole'. No condition.
-/
import Derived.Test.YteokhnkipandbaaNumDiv
import Derived.Test.YteokhnkipandbaaNumLives
namespace Go.Proofs.Yteokhnkipandbaa
open Go.ChangeShapes Go.WideShapes Go.ChangeAt Go.RowKit

set_option maxRecDepth 10000 in
theorem part_any (a b c : Int) (w : World) :
    Calls Try.prog 32 #[.int .i64 a, .int .i64 b, .int .i64 c] w fun e w' => e = .returned (.int .i64 (partZ a b c)) ∧ ∃ n, w' = w.drewN n := by
  obtain ⟨x, hx, hxb⟩ := nearZ_nat a
  obtain ⟨y, hy, hyb⟩ := nearZ_nat b
  obtain ⟨z, hz, hzb⟩ := nearZ_nat c
  by_cases hp : x * y < 18446744073709551616
  case pos => exact part_small a b c x y hx hy hp w
  have H := Lib.hid (partZ_nat hx hy hz)
  have HZ := Lib.hid hz
  clear hz
  have hdm := Nat.div_add_mod (x * y) 18446744073709551616
  have hml := Nat.mod_lt (x * y) (show 18446744073709551616 > 0 by decide)
  have hh : 1 ≤ x * y / 18446744073709551616 := by
    rw [Nat.le_div_iff_mul_le (by decide)]
    generalize x * y = p at hp ⊢
    omega
  go_enter Try.func32, Try.ntmps32
  go_wp2_with fail
  refine (wide_any a b x y hx hy _).mono ?_
  rintro e w' ⟨rfl, rfl⟩
  clear hx hy hxb hyb
  generalize x * y = p at H hp hdm hml hh ⊢
  generalize p / 18446744073709551616 = hi at hdm hh ⊢
  generalize p % 18446744073709551616 = lo at hdm hml ⊢
  have hpe : hi * 18446744073709551616 + lo = p := by omega
  have HP := Lib.hid hpe
  clear hdm hp hpe
  go_wp2_with fail
  refine (near_any _ _).mono ?_
  rintro e w' ⟨rfl, rfl⟩
  rw [HZ.out]
  by_cases hzh : z ≤ hi
  case pos =>
    have hres : partZ a b c = 9007199254740991 := by
      rw [H.out]
      by_cases h0 : z = 0
      · rw [if_pos h0]
      · rw [if_neg h0]
        have h1 : 18446744073709551616 ≤ p / z := by
          rw [Nat.le_div_iff_mul_le (by omega), ← HP.out]
          omega
        generalize p / z = q at h1 ⊢
        omega
    have HR := Lib.hid hres
    have hI : (z : Int) ≤ (hi : Int) := by omega
    clear hres hzh
    go_wp2_with fail
    go_ret
    exact ⟨by rw [HR.out]; rfl, 0, rfl⟩
  have h0 : ¬ z = 0 := by omega
  rw [if_neg h0] at H
  have hI : ¬ (z : Int) ≤ (hi : Int) := by omega
  go_wp2_with fail
  refine (div64_big hi lo z (by omega) (by omega) (by omega) hml _).mono ?_
  rintro e w' ⟨⟨r, rfl⟩, rfl⟩
  rw [HP.out]
  have hq : p / z < 18446744073709551616 := by
    rw [← HP.out]
    refine Nat.div_lt_of_lt_mul ?_
    have : (hi + 1) * 18446744073709551616 ≤ z * 18446744073709551616 := Nat.mul_le_mul_right _ (by omega)
    omega
  generalize p / z = q at H hq ⊢
  by_cases h2 : q ≤ 9007199254740991
  case pos =>
    have hm : min q 9007199254740991 = q := by omega
    rw [hm] at H
    have h3 : ¬ (9007199254740991 : Int) < (q : Int) := by omega
    have h4 : (0 : Int) ≤ (q : Int) := by omega
    clear h2
    go_wp2_with fail
    go_ret
    exact ⟨by rw [H.out]; rfl, 0, rfl⟩
  have hm : min q 9007199254740991 = 9007199254740991 := by omega
  rw [hm] at H
  have h3 : (9007199254740991 : Int) < (q : Int) := by omega
  clear h2
  go_wp2_with fail
  go_ret
  exact ⟨by rw [H.out]; rfl, 0, rfl⟩

/-- a number divided into itself and another -/
theorem partZ_back {a b : Int} (h0 : 0 ≤ a) (h1 : a ≤ 9007199254740991) (h2 : 1 ≤ b) (h3 : b ≤ 9007199254740991) : partZ a b b = a ∧ partZ b a b = a := by
  have ha := nearZ_in h0 h1
  have hb := nearZ_in (show 0 ≤ b by omega) h3
  have hne : ¬ b = 0 := by omega
  unfold partZ
  rw [ha, hb, if_neg hne, if_neg hne, Int.mul_ediv_cancel _ hne, Int.mul_ediv_cancel_left _ hne]
  omega

theorem num_whole_walk (a b : Int) (w : World) : Calls Try.prog 8 #[.int .i64 a, .int .i64 b] w fun e w' => e = .returned (.bool true) ∧ Below w.heap.size w w' := by
  by_cases h0 : a < 0
  case pos =>
    go_enter Try.func8, Try.ntmps8
    go_wp2_with fail
    refine (num_lives _).mono ?_
    rintro e W ⟨rfl, hb⟩
    go_wp2_with fail
    go_ret
    exact ⟨rfl, hb⟩
  by_cases h1 : 9007199254740991 < a
  case pos =>
    go_enter Try.func8, Try.ntmps8
    go_wp2_with fail
    refine (num_lives _).mono ?_
    rintro e W ⟨rfl, hb⟩
    go_wp2_with fail
    go_ret
    exact ⟨rfl, hb⟩
  by_cases h2 : b < 1
  case pos =>
    go_enter Try.func8, Try.ntmps8
    go_wp2_with fail
    refine (num_lives _).mono ?_
    rintro e W ⟨rfl, hb⟩
    go_wp2_with fail
    go_ret
    exact ⟨rfl, hb⟩
  by_cases h3 : 9007199254740991 < b
  case pos =>
    go_enter Try.func8, Try.ntmps8
    go_wp2_with fail
    refine (num_lives _).mono ?_
    rintro e W ⟨rfl, hb⟩
    go_wp2_with fail
    go_ret
    exact ⟨rfl, hb⟩
  obtain ⟨p1, p2⟩ := partZ_back (a := a) (b := b) (by omega) (by omega) (by omega) (by omega)
  have P1 := Lib.hid p1
  have P2 := Lib.hid p2
  clear p1 p2
  go_enter Try.func8, Try.ntmps8
  go_wp2_with fail
  refine (num_lives _).mono ?_
  rintro e W ⟨rfl, hb⟩
  go_wp2_with fail
  refine (part_any a b b _).mono ?_
  rintro e w' ⟨rfl, n, rfl⟩
  rw [P1.out]
  go_wp2_with fail
  refine (part_any b a b _).mono ?_
  rintro e w' ⟨rfl, m, rfl⟩
  rw [P2.out]
  go_wp2_with fail
  go_ret
  exact ⟨rfl, below_drewN' hb _⟩

theorem rpart_step {x y z q r j b : Nat} (hinv : q * z + r = x / 2 ^ (j + 1) * y) (hb : x / 2 ^ j % 2 = b) : q * 2 * z + (r * 2 + b * y) = x / 2 ^ j * y := by
  have e1 : x / 2 ^ j = 2 * (x / 2 ^ (j + 1)) + b := by
    have h := Nat.div_add_mod (x / 2 ^ j) 2
    rw [Nat.div_div_eq_div_mul, show 2 ^ j * 2 = 2 ^ (j + 1) from (Nat.pow_succ 2 j).symm, hb] at h
    omega
  rw [e1, Nat.add_mul, Nat.mul_assoc 2, ← hinv, Nat.mul_right_comm]
  generalize q * z = m
  generalize b * y = n
  omega

theorem bits_and1_i64 (t : Nat) (h : t ≤ 9007199254740991) : bits .and .i64 (t : Int) 1 = ((t % 2 : Nat) : Int) := by
  have h1 : (BitVec.ofInt 64 (t : Int)).toNat = t := by
    rw [BitVec.ofInt_natCast, BitVec.toNat_ofNat]; exact Nat.mod_eq_of_lt (by omega)
  have h2 : (BitVec.ofInt 64 (1 : Int)).toNat = 1 := by rfl
  show IntKind.i64.wrap ((BitVec.ofInt 64 (t : Int) &&& BitVec.ofInt 64 1).toNat : Int) = _
  rw [BitVec.toNat_and, h1, h2, Nat.and_one_is_mod]
  exact IntWalk.i64_in _ (by omega)
theorem rpart_next {q z R2 N d m : Nat} (hs : q * 2 * z + R2 = N) (hd : R2 / z = d) (hm : R2 % z = m) : (q * 2 + d) * z + m = N := by
  have h := Nat.div_add_mod R2 z
  rw [hd, hm] at h
  rw [Nat.add_mul, Nat.mul_comm d, ← hs, ← h]
  omega
theorem rpart_over {q z N P m : Nat} (h : q * z + m = N) (hz : 0 < z) (hP : N ≤ P) (hq : 9007199254740991 < q) : min (P / z) 9007199254740991 = 9007199254740991 := by
  have h1 : q ≤ P / z := by
    rw [Nat.le_div_iff_mul_le hz]
    omega
  omega
set_option maxRecDepth 10000 in
set_option maxHeartbeats 1000000 in
theorem rpart_any (a b c : Int) (w : World) : Calls Try.prog 33 #[.int .i64 a, .int .i64 b, .int .i64 c] w fun e w' => e = .returned (.int .i64 (partZ a b c)) ∧ w = w' := by
  obtain ⟨x, hx, hxb⟩ := nearZ_nat a
  obtain ⟨y, hy, hyb⟩ := nearZ_nat b
  obtain ⟨z, hz, hzb⟩ := nearZ_nat c
  have H := Lib.hid (partZ_nat hx hy hz)
  have HX := Lib.hid hx
  have HY := Lib.hid hy
  have HZ := Lib.hid hz
  clear hx hy hz
  go_enter Try.func33, Try.ntmps33
  go_wp2_with fail
  refine (rnear_any _ _).mono ?_
  rintro e w' ⟨rfl, rfl⟩
  rw [HX.out]
  go_wp2_with fail
  refine (rnear_any _ _).mono ?_
  rintro e w' ⟨rfl, rfl⟩
  rw [HY.out]
  go_wp2_with fail
  refine (rnear_any _ _).mono ?_
  rintro e w' ⟨rfl, rfl⟩
  rw [HZ.out]
  by_cases h0 : z = 0
  case pos =>
    subst h0
    rw [if_pos rfl] at H
    go_wp2_with fail
    go_ret
    exact ⟨by rw [H.out]; rfl, rfl⟩
  rw [if_neg h0] at H
  have hz0 : (0 : Int) < (z : Int) := by omega
  have hz1 : ¬ (z : Int) = 0 := by omega
  have hz2 : ((z : Int) == 0) = false := by simp; omega
  go_wp2_with fail
  go_loop [7, 8, 9] (fun vq vr vi => ∃ k q r : Nat, k ≤ 53 ∧ vi = .int .i64 ((k : Int) - 1) ∧ vq = .int .i64 (q : Nat) ∧ vr = .int .i64 (r : Nat) ∧ q * z + r = x / 2 ^ k * y ∧ r < z ∧ q ≤ 9007199254740991) (fun _ _ vi => (intOf vi + 1).toNat)
  case atStart => exact ⟨53, 0, 0, by omega, rfl, rfl, rfl, by rw [Nat.div_eq_of_lt (by omega)]; simp, by omega, by omega⟩
  case round =>
    obtain ⟨k, q, r, hk, rfl, rfl, rfl, hinv, hr, hq⟩ := hrel
    by_cases hk0 : k = 0
    case pos =>
      subst hk0
      rw [Nat.pow_zero, Nat.div_one] at hinv
      have hres : x * y / z = q := by
        rw [← hinv, Nat.mul_comm, Nat.mul_add_div (by omega), Nat.div_eq_of_lt hr, Nat.add_zero]
      rw [hres] at H
      have hm : min q 9007199254740991 = q := by omega
      rw [hm] at H
      clear hinv hres
      go_wp2_with fail
      go_ret
      exact ⟨by rw [H.out]; rfl, rfl⟩
    obtain ⟨j, rfl⟩ : ∃ j, k = j + 1 := ⟨k - 1, by omega⟩
    rw [show ((j + 1 : Nat) : Int) - 1 = (j : Int) from by omega]
    have j0 : (0 : Int) ≤ (j : Int) := by omega
    have hdiv : (x : Int) / 2 ^ j = ((x / 2 ^ j : Nat) : Int) := by simp
    rcases Nat.mod_two_eq_zero_or_one (x / 2 ^ j) with hb | hb
    all_goals
      have hs := rpart_step hinv hb
      have hbig := Nat.div_le_self x (2 ^ j)
      have hfull : x / 2 ^ j * y ≤ x * y := Nat.mul_le_mul_right _ hbig
      have HF := Lib.hid hfull
      clear hinv hfull
      generalize ht : x / 2 ^ j = t at hdiv hb hs hbig HF
    · have hbit := bits_and1_i64 t (by omega)
      rw [hb] at hbit
      have hbit : bits .and .i64 (t : Int) 1 = 0 := hbit
      have hs : q * 2 * z + (r * 2) = t * y := by simpa using hs
      have hdI : ((r : Int) * 2) / (z : Int) = (((r * 2) / z : Nat) : Int) := rfl
      have hmI : ((r : Int) * 2) % (z : Int) = (((r * 2) % z : Nat) : Int) := rfl
      have hdle := Nat.div_le_self (r * 2) z
      have hmz := Nat.mod_lt (r * 2) (show z > 0 by omega)
      generalize hd : (r * 2) / z = d at hdI hdle
      generalize hm : (r * 2) % z = m at hmI hmz
      have hn := rpart_next hs hd hm
      have HN := Lib.hid hn
      have HT := Lib.hid ht
      clear hs hd hm hn hb ht
      by_cases hov : 9007199254740991 < q * 2 + d
      case pos =>
        have hres := rpart_over HN.out (by omega) HF.out hov
        rw [hres] at H
        have hovI : (9007199254740991 : Int) < (q : Int) * 2 + (d : Int) := by omega
        clear hres hov
        go_wp2_with fail
        go_ret
        exact ⟨by rw [H.out]; rfl, rfl⟩
      have hovI : ¬ (9007199254740991 : Int) < (q : Int) * 2 + (d : Int) := by omega
      have hle : q * 2 + d ≤ 9007199254740991 := by omega
      clear hov
      go_wp2_with fail
      exact ⟨⟨j, q * 2 + d, m, by omega, rfl, by simp, by rw [hmI], by rw [HT.out]; exact HN.out, hmz, hle⟩, by simp [intOf]⟩
    · have hbit := bits_and1_i64 t (by omega)
      rw [hb] at hbit
      have hbit : bits .and .i64 (t : Int) 1 = 1 := hbit
      have hs : q * 2 * z + (r * 2 + y) = t * y := by simpa using hs
      have hdI : ((r : Int) * 2 + (y : Int)) / (z : Int) = (((r * 2 + y) / z : Nat) : Int) := rfl
      have hmI : ((r : Int) * 2 + (y : Int)) % (z : Int) = (((r * 2 + y) % z : Nat) : Int) := rfl
      have hdle := Nat.div_le_self (r * 2 + y) z
      have hmz := Nat.mod_lt (r * 2 + y) (show z > 0 by omega)
      generalize hd : (r * 2 + y) / z = d at hdI hdle
      generalize hm : (r * 2 + y) % z = m at hmI hmz
      have hn := rpart_next hs hd hm
      have HN := Lib.hid hn
      have HT := Lib.hid ht
      clear hs hd hm hn hb ht
      by_cases hov : 9007199254740991 < q * 2 + d
      case pos =>
        have hres := rpart_over HN.out (by omega) HF.out hov
        rw [hres] at H
        have hovI : (9007199254740991 : Int) < (q : Int) * 2 + (d : Int) := by omega
        clear hres hov
        go_wp2_with fail
        go_ret
        exact ⟨by rw [H.out]; rfl, rfl⟩
      have hovI : ¬ (9007199254740991 : Int) < (q : Int) * 2 + (d : Int) := by omega
      have hle : q * 2 + d ≤ 9007199254740991 := by omega
      clear hov
      go_wp2_with fail
      exact ⟨⟨j, q * 2 + d, m, by omega, rfl, by simp, by rw [hmI], by rw [HT.out]; exact HN.out, hmz, hle⟩, by simp [intOf]⟩

theorem num_parts_walk (a b c n : Int) (w : World) : Calls Try.prog 5 #[.int .i64 a, .int .i64 b, .int .i64 c, .int .i64 n] w fun e w' => e = .returned (.bool true) ∧ Below w.heap.size w w' := by
  go_enter Try.func5, Try.ntmps5
  go_wp2_with fail
  refine (num_lives _).mono ?_
  rintro e W ⟨rfl, hb⟩
  go_wp2_with fail
  refine (part_any a b c _).mono ?_
  rintro e w' ⟨rfl, n, rfl⟩
  go_wp2_with fail
  refine (rpart_any a b c _).mono ?_
  rintro e w' ⟨rfl, rfl⟩
  go_wp2_with fail
  refine (mask_any _ _).mono ?_
  rintro e w' ⟨rfl, rfl⟩
  go_wp2_with fail
  refine (rmask_any _ _).mono ?_
  rintro e w' ⟨rfl, rfl⟩
  go_wp2_with fail
  go_ret
  exact ⟨rfl, below_drewN' hb _⟩
end Go.Proofs.Yteokhnkipandbaa
