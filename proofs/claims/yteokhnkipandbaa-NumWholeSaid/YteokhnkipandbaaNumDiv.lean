/-
  Two words divided by one: math/bits' Div64 where the higher word is not 0. No condition but that the quotient fits.
-/
import Derived.Test.YteokhnkipandbaaNumPart
import Derived.Test.YteokhnkipandbaaKnuthNorm
import Derived.Test.YteokhnkipandbaaShelfLz
import Derived.LoopTactic
import Derived.Deep.DeepCutAuto
import Derived.Deep.CutBlock
import Derived.Shelf.Bits.Mul64
namespace Go.Proofs.Yteokhnkipandbaa
open Go.ChangeShapes Go.WideShapes Go.ChangeAt Go.RowKit

set_option maxRecDepth 10000 in
set_option maxHeartbeats 4000000 in
theorem div64_big (hi lo y : Nat) (hh0 : 0 < hi) (hhy : hi < y) (hy : y < 18446744073709551616) (hlo : lo < 18446744073709551616) (w : World) :
    Calls Try.prog 69 #[.int .u64 hi, .int .u64 lo, .int .u64 y] w fun e w' => (∃ r : Int, e = .returned (.tuple #[.int .u64 (((hi * 18446744073709551616 + lo) / y : Nat) : Int), .int .u64 r])) ∧ w = w' := by
  obtain ⟨l1, l2, l3, l4⟩ := bitLen_bd (show 0 < y by omega) hy
  have n1 : ((y : Int) == 0) = false := by simp; omega
  have n2 : ¬ (y : Int) ≤ (hi : Int) := by omega
  have n3 : ((hi : Int) == 0) = false := by simp; omega
  go_enter Try.func69, Try.ntmps69
  go_wp2_with fail
  refine (lz64 y hy _).mono ?_
  rintro e w' ⟨rfl, rfl⟩
  generalize hL : Lib.bitLen y = L at l1 l2 l3 l4 ⊢
  obtain ⟨s, hs⟩ : ∃ s : Nat, (64 : Int) - (L : Int) = (s : Int) := ⟨64 - L, by omega⟩
  have eL : s = 64 - L := by omega
  have hs63 : s ≤ 63 := by omega
  have hY1 : 9223372036854775808 ≤ y * 2 ^ s := by
    have := Nat.mul_le_mul_right (2 ^ s) l3
    rw [← Nat.pow_add, show L - 1 + s = 63 by omega] at this
    exact this
  have hY2 : y * 2 ^ s < 18446744073709551616 := by
    have := Nat.mul_lt_mul_of_pos_right l4 (Nat.two_pow_pos s)
    rw [← Nat.pow_add, show L + s = 64 by omega] at this
    exact this
  have dn := divN_of hs63 hhy hlo hY1 hY2
  clear l1 l2 l3 l4 hL eL hY1 hY2
  rw [hs]
  clear hs
  have wH := dn.wH hhy
  have wY := dn.wY
  have wV := dn.wV
  have dL := divN_dLo lo s
  have oU := dn.oU hs63 hhy hlo
  have hfin := fun u1 u0 => divN_quo (u1 := u1) (u0 := u0) dn
  have hYl := dn.loY
  have hYh := dn.hiY
  have hUY := dn.hU
  have hVh : lo * 2 ^ s % 18446744073709551616 < 18446744073709551616 := Nat.mod_lt _ (by decide)
  clear dn
  have s1 : (s : Int) ≤ 63 := by omega
  have s0 : (0 : Int) ≤ (s : Int) := by omega
  generalize hi * 2 ^ s + lo / 2 ^ (64 - s) = U at oU hfin hUY
  generalize lo * 2 ^ s % 18446744073709551616 = V at wV hfin hVh
  generalize y * 2 ^ s = Y at wY hfin hYl hYh hUY
  generalize hi * 2 ^ s = Hs at wH oU
  generalize lo / 2 ^ (64 - s) = Ls at dL oU
  have dY : (Y : Int) / 4294967296 = ((Y / 4294967296 : Nat) : Int) := Mul64.divN Y
  have aY := Mul64.maskN Y hYh
  have dV : (V : Int) / 4294967296 = ((V / 4294967296 : Nat) : Int) := Mul64.divN V
  have aV := Mul64.maskN V hVh
  have eY : Y = Y / 4294967296 * 4294967296 + Y % 4294967296 := by omega
  have eV : V = V / 4294967296 * 4294967296 + V % 4294967296 := by omega
  have y1lo : 2147483648 ≤ Y / 4294967296 := by omega
  have y1hi : Y / 4294967296 < 4294967296 := by omega
  have y0hi : Y % 4294967296 < 4294967296 := by omega
  have u1hi : V / 4294967296 < 4294967296 := by omega
  have u0hi : V % 4294967296 < 4294967296 := by omega
  have hfin := hfin _ _ eV
  generalize Y / 4294967296 = y1 at dY eY y1lo y1hi
  generalize Y % 4294967296 = y0 at aY eY y0hi
  generalize V / 4294967296 = u1 at dV eV u1hi hfin
  generalize V % 4294967296 = u0 at aV eV u0hi hfin
  obtain ⟨Q, R, eQ, hRY, hQB, f1, f2, kle, kdn, kbr⟩ := kn_pack eY y1lo y0hi hUY u1hi
  have tq : (U : Int).tdiv (y1 : Int) = ((U / y1 : Nat) : Int) := rfl
  have tq2 : (U : Int) / (y1 : Int) = ((U / y1 : Nat) : Int) := rfl
  have wq : IntKind.u64.wrap ((U / y1 : Nat) : Int) = ((U / y1 : Nat) : Int) := by
    rw [IntKind.wrap_u64]
    generalize U / y1 = q at f2 ⊢
    omega
  have hqr := Nat.div_add_mod U y1
  have hrm := Nat.mod_lt U (show y1 > 0 by omega)
  have wm : IntKind.u64.wrap (((U / y1 : Nat) : Int) * (y1 : Int)) = ((U / y1 * y1 : Nat) : Int) := by
    rw [← Int.natCast_mul, IntKind.wrap_u64]
    have : U / y1 * y1 ≤ U := Nat.div_mul_le_self _ _
    generalize U / y1 * y1 = q at this ⊢
    omega
  have wr : IntKind.u64.wrap ((U : Int) - ((U / y1 * y1 : Nat) : Int)) = ((U % y1 : Nat) : Int) := by
    rw [IntKind.wrap_u64]
    rw [Nat.mul_comm] at hqr
    generalize U / y1 * y1 = q at hqr ⊢
    generalize U % y1 = r at hqr hrm ⊢
    omega
  rw [Nat.mul_comm] at hqr
  have nz : ¬ (y1 : Int) = 0 := by omega
  have EY := Lib.hid eY
  have EV := Lib.hid eV
  have EQ := Lib.hid eQ
  have KLE := Lib.hid kle
  have KDN := Lib.hid kdn
  have KBR := Lib.hid kbr
  clear eV eY eQ kle kdn kbr
  generalize U / y1 = q0 at f1 f2 tq tq2 wq hqr wm wr
  generalize hm0 : q0 * y1 = m0 at hqr wm wr
  generalize U % y1 = r0 at hqr hrm wr
  go_upto_block 0 with fail
  go_cut [15, 16] (fun va vb_ wx => wx = w' ∧ va = .int .u64 (Q : Nat) ∧ ∃ r : Nat, vb_ = .int .u64 (r : Nat))
  case first =>
    go_wp2_with fail
    go_loop [15, 16] (fun va vb_ => ∃ q r : Nat, va = .int .u64 (q : Nat) ∧ vb_ = .int .u64 (r : Nat) ∧ q * y1 + r = U ∧ Q ≤ q ∧ q ≤ 4294967297 ∧ r < 4294967296) (fun va vb_ => (intOf va).toNat)
    case atStart => exact ⟨q0, r0, rfl, rfl, by omega, f1, f2, by omega⟩
    case round =>
      obtain ⟨q, r, rfl, rfl, hinv, hge, hle, hr⟩ := hrel
      by_cases hc : 4294967296 ≤ q ∨ 4294967296 * r + u1 < q * y0
      case pos =>
        have hd := KDN.out q r hinv hc
        obtain ⟨p, hp⟩ : ∃ p, q = p + 1 := ⟨q - 1, by omega⟩
        have hinv2 : p * y1 + (r + y1) = U := by rw [← hinv, hp, Nat.add_mul]; omega
        have p1 : IntKind.u64.wrap ((q : Int) - 1) = (p : Int) := by rw [IntKind.wrap_u64]; omega
        have p2 : IntKind.u64.wrap ((r : Int) + (y1 : Int)) = ((r + y1 : Nat) : Int) := by rw [IntKind.wrap_u64]; omega
        have hpb : p ≤ 4294967296 := by omega
        have hQp : Q ≤ p := by omega
        have HI := Lib.hid hinv2
        have HP := Lib.hid hp
        have hguard : (4294967296 ≤ q) ∨ (q < 4294967296 ∧ 4294967296 * r + u1 < q * y0) := by omega
        have HL := Lib.hid hle
        have HG := Lib.hid hge
        clear hd hinv hinv2 hc hp hle hge
        generalize hR1 : r + y1 = ry at p2 HI
        have HR1 := Lib.hid hR1
        by_cases hb : 4294967296 ≤ ry
        case pos =>
          have e := KBR.out p ry hpb HI.out hb
          obtain rfl : p = Q := by omega
          have b2 : (4294967296 : Int) ≤ (ry : Int) := by omega
          clear hR1 hpb hQp e hb
          rcases hguard with hB | ⟨hB, hc⟩
          · have b1 : (4294967296 : Int) ≤ (q : Int) := by omega
            clear hB
            go_wp2_with fail
            go_meet
            exact ⟨rfl, rfl, _, rfl⟩
          · have b1 : ¬ (4294967296 : Int) ≤ (q : Int) := by omega
            have w1 : IntKind.u64.wrap ((q : Int) * (y0 : Int)) = ((q * y0 : Nat) : Int) := by
              have h1 : q * y0 ≤ 4294967295 * 4294967295 := Nat.mul_le_mul (by omega) (by omega)
              rw [← Int.natCast_mul, IntKind.wrap_u64]
              generalize q * y0 = z at h1 ⊢
              omega
            generalize q * y0 = z at w1 hc
            have hcI : 4294967296 * (r : Int) + (u1 : Int) < (z : Int) := by omega
            have qI : (q : Int) < 4294967296 := by omega
            clear hB hc
            go_wp2_with fail
            go_meet
            exact ⟨rfl, rfl, _, rfl⟩
        have b2 : ¬ (4294967296 : Int) ≤ (ry : Int) := by omega
        have hb' : ry < 4294967296 := by omega
        clear hR1
        rcases hguard with hB | ⟨hB, hc⟩
        · have b1 : (4294967296 : Int) ≤ (q : Int) := by omega
          clear hB
          go_wp2_with fail
          exact ⟨⟨p, ry, rfl, rfl, HI.out, hQp, by omega, hb'⟩, by have := HP.out; simp [intOf]; omega⟩
        · have b1 : ¬ (4294967296 : Int) ≤ (q : Int) := by omega
          have w1 : IntKind.u64.wrap ((q : Int) * (y0 : Int)) = ((q * y0 : Nat) : Int) := by
            have h1 : q * y0 ≤ 4294967295 * 4294967295 := Nat.mul_le_mul (by omega) (by omega)
            rw [← Int.natCast_mul, IntKind.wrap_u64]
            generalize q * y0 = z at h1 ⊢
            omega
          generalize q * y0 = z at w1 hc
          have hcI : 4294967296 * (r : Int) + (u1 : Int) < (z : Int) := by omega
          have qI : (q : Int) < 4294967296 := by omega
          clear hB hc
          go_wp2_with fail
          exact ⟨⟨p, ry, rfl, rfl, HI.out, hQp, by omega, hb'⟩, by have := HP.out; simp [intOf]; omega⟩
      have hq1 : ¬ 4294967296 ≤ q := fun h => hc (Or.inl h)
      have hc2 : q * y0 ≤ 4294967296 * r + u1 := by
        rcases Nat.lt_or_ge (4294967296 * r + u1) (q * y0) with h | h
        · exact absurd (Or.inr h) hc
        · exact h
      have e := KLE.out q r hinv hc2
      obtain rfl : q = Q := by omega
      have b1 : ¬ (4294967296 : Int) ≤ (q : Int) := by omega
      have w1 : IntKind.u64.wrap ((q : Int) * (y0 : Int)) = ((q * y0 : Nat) : Int) := by
        have h1 : q * y0 ≤ 4294967295 * 4294967295 := Nat.mul_le_mul (by omega) (by omega)
        rw [← Int.natCast_mul, IntKind.wrap_u64]
        generalize q * y0 = z at h1 ⊢
        omega
      generalize q * y0 = z at w1 hc2
      have hcI : ¬ 4294967296 * (r : Int) + (u1 : Int) < (z : Int) := by omega
      have qI : (q : Int) < 4294967296 := by omega
      clear hc hc2 hq1 hinv hge hle e
      go_wp2_with fail
      go_meet
      exact ⟨rfl, rfl, _, rfl⟩
  case rest =>
    obtain ⟨rfl, rfl, r1, rfl⟩ := hcut
    have wR : IntKind.u64.wrap (IntKind.u64.wrap (IntKind.u64.wrap ((U : Int) * 4294967296) + (u1 : Int)) - IntKind.u64.wrap ((Q : Int) * (Y : Int))) = (R : Int) := by
      have h1 := EQ.out
      rw [Nat.mul_comm] at h1
      rw [← Int.natCast_mul, IntKind.wrap_u64, IntKind.wrap_u64, IntKind.wrap_u64, IntKind.wrap_u64]
      generalize Q * Y = P at h1 ⊢
      omega
    obtain ⟨Q0, R0, eQ0, hR0, hQ0, g1, g2, kle2, kdn2, kbr2⟩ := kn_pack EY.out y1lo y0hi hRY u0hi
    have hres : (hi * 18446744073709551616 + lo) / y = Q * 4294967296 + Q0 := by rw [← hfin]; exact (kn_final u0 EQ.out eQ0 hR0).symm
    have tR : (R : Int).tdiv (y1 : Int) = ((R / y1 : Nat) : Int) := rfl
    have tR2 : (R : Int) / (y1 : Int) = ((R / y1 : Nat) : Int) := rfl
    have wR2 : IntKind.u64.wrap ((R / y1 : Nat) : Int) = ((R / y1 : Nat) : Int) := by
      rw [IntKind.wrap_u64]
      generalize R / y1 = q at g2 ⊢
      omega
    have hqR := Nat.div_add_mod R y1
    have hrR := Nat.mod_lt R (show y1 > 0 by omega)
    have wR3 : IntKind.u64.wrap (((R / y1 : Nat) : Int) * (y1 : Int)) = ((R / y1 * y1 : Nat) : Int) := by
      rw [← Int.natCast_mul, IntKind.wrap_u64]
      have : R / y1 * y1 ≤ R := Nat.div_mul_le_self _ _
      generalize R / y1 * y1 = q at this ⊢
      omega
    have wR4 : IntKind.u64.wrap ((R : Int) - ((R / y1 * y1 : Nat) : Int)) = ((R % y1 : Nat) : Int) := by
      rw [IntKind.wrap_u64]
      rw [Nat.mul_comm] at hqR
      generalize R / y1 * y1 = q at hqR ⊢
      generalize R % y1 = r at hqR hrR ⊢
      omega
    rw [Nat.mul_comm] at hqR
    have HRES := Lib.hid hres
    have KLE2 := Lib.hid kle2
    have KDN2 := Lib.hid kdn2
    have KBR2 := Lib.hid kbr2
    clear hres kle2 kdn2 kbr2 eQ0 hfin tq tq2 wq wm wr hqr f1 f2 hm0
    generalize R / y1 = q2 at g1 g2 tR tR2 wR2 hqR wR3 wR4
    generalize hm2 : q2 * y1 = m2 at hqR wR3 wR4
    generalize R % y1 = r2 at hqR hrR wR4
    go_upto_block 2 with fail
    go_cut [16, 18] (fun vb_ va wx => wx = wc ∧ va = .int .u64 (Q0 : Nat) ∧ ∃ r : Nat, vb_ = .int .u64 (r : Nat))
    case first =>
      go_wp2_with fail
      go_loop [16, 18] (fun vb_ va => ∃ q r : Nat, va = .int .u64 (q : Nat) ∧ vb_ = .int .u64 (r : Nat) ∧ q * y1 + r = R ∧ Q0 ≤ q ∧ q ≤ 4294967297 ∧ r < 4294967296) (fun vb_ va => (intOf va).toNat)
      case atStart => exact ⟨q2, r2, rfl, rfl, by omega, g1, g2, by omega⟩
      case round =>
        obtain ⟨q, r, rfl, rfl, hinv, hge, hle, hr⟩ := hrel
        by_cases hc : 4294967296 ≤ q ∨ 4294967296 * r + u0 < q * y0
        case pos =>
          have hd := KDN2.out q r hinv hc
          obtain ⟨p, hp⟩ : ∃ p, q = p + 1 := ⟨q - 1, by omega⟩
          have hinv2 : p * y1 + (r + y1) = R := by rw [← hinv, hp, Nat.add_mul]; omega
          have p1 : IntKind.u64.wrap ((q : Int) - 1) = (p : Int) := by rw [IntKind.wrap_u64]; omega
          have p2 : IntKind.u64.wrap ((r : Int) + (y1 : Int)) = ((r + y1 : Nat) : Int) := by rw [IntKind.wrap_u64]; omega
          have hpb : p ≤ 4294967296 := by omega
          have hQp : Q0 ≤ p := by omega
          have HI := Lib.hid hinv2
          have HP := Lib.hid hp
          have hguard : (4294967296 ≤ q) ∨ (q < 4294967296 ∧ 4294967296 * r + u0 < q * y0) := by omega
          have HL := Lib.hid hle
          have HG := Lib.hid hge
          clear hd hinv hinv2 hc hp hle hge
          generalize hR1 : r + y1 = ry at p2 HI
          have HR1 := Lib.hid hR1
          by_cases hb : 4294967296 ≤ ry
          case pos =>
            have e := KBR2.out p ry hpb HI.out hb
            obtain rfl : p = Q0 := by omega
            have b2 : (4294967296 : Int) ≤ (ry : Int) := by omega
            clear hR1 hpb hQp e hb
            rcases hguard with hB | ⟨hB, hc⟩
            · have b1 : (4294967296 : Int) ≤ (q : Int) := by omega
              clear hB
              go_wp2_with fail
              go_meet
              exact ⟨rfl, rfl, _, rfl⟩
            · have b1 : ¬ (4294967296 : Int) ≤ (q : Int) := by omega
              have w1 : IntKind.u64.wrap ((q : Int) * (y0 : Int)) = ((q * y0 : Nat) : Int) := by
                have h1 : q * y0 ≤ 4294967295 * 4294967295 := Nat.mul_le_mul (by omega) (by omega)
                rw [← Int.natCast_mul, IntKind.wrap_u64]
                generalize q * y0 = z at h1 ⊢
                omega
              generalize q * y0 = z at w1 hc
              have hcI : 4294967296 * (r : Int) + (u0 : Int) < (z : Int) := by omega
              have qI : (q : Int) < 4294967296 := by omega
              clear hB hc
              go_wp2_with fail
              go_meet
              exact ⟨rfl, rfl, _, rfl⟩
          have b2 : ¬ (4294967296 : Int) ≤ (ry : Int) := by omega
          have hb' : ry < 4294967296 := by omega
          clear hR1
          rcases hguard with hB | ⟨hB, hc⟩
          · have b1 : (4294967296 : Int) ≤ (q : Int) := by omega
            clear hB
            go_wp2_with fail
            exact ⟨⟨p, ry, rfl, rfl, HI.out, hQp, by omega, hb'⟩, by have := HP.out; simp [intOf]; omega⟩
          · have b1 : ¬ (4294967296 : Int) ≤ (q : Int) := by omega
            have w1 : IntKind.u64.wrap ((q : Int) * (y0 : Int)) = ((q * y0 : Nat) : Int) := by
              have h1 : q * y0 ≤ 4294967295 * 4294967295 := Nat.mul_le_mul (by omega) (by omega)
              rw [← Int.natCast_mul, IntKind.wrap_u64]
              generalize q * y0 = z at h1 ⊢
              omega
            generalize q * y0 = z at w1 hc
            have hcI : 4294967296 * (r : Int) + (u0 : Int) < (z : Int) := by omega
            have qI : (q : Int) < 4294967296 := by omega
            clear hB hc
            go_wp2_with fail
            exact ⟨⟨p, ry, rfl, rfl, HI.out, hQp, by omega, hb'⟩, by have := HP.out; simp [intOf]; omega⟩
        have hq1 : ¬ 4294967296 ≤ q := fun h => hc (Or.inl h)
        have hc2 : q * y0 ≤ 4294967296 * r + u0 := by
          rcases Nat.lt_or_ge (4294967296 * r + u0) (q * y0) with h | h
          · exact absurd (Or.inr h) hc
          · exact h
        have e := KLE2.out q r hinv hc2
        obtain rfl : q = Q0 := by omega
        have b1 : ¬ (4294967296 : Int) ≤ (q : Int) := by omega
        have w1 : IntKind.u64.wrap ((q : Int) * (y0 : Int)) = ((q * y0 : Nat) : Int) := by
          have h1 : q * y0 ≤ 4294967295 * 4294967295 := Nat.mul_le_mul (by omega) (by omega)
          rw [← Int.natCast_mul, IntKind.wrap_u64]
          generalize q * y0 = z at h1 ⊢
          omega
        generalize q * y0 = z at w1 hc2
        have hcI : ¬ 4294967296 * (r : Int) + (u0 : Int) < (z : Int) := by omega
        have qI : (q : Int) < 4294967296 := by omega
        clear hc hc2 hq1 hinv hge hle e
        go_wp2_with fail
        go_meet
        exact ⟨rfl, rfl, _, rfl⟩
    case rest =>
      obtain ⟨rfl, rfl, r1, rfl⟩ := hcut
      go_wp2_with fail
      go_ret2
      exact ⟨⟨_, by rw [HRES.out, Int.natCast_add, Int.natCast_mul]; rfl⟩, rfl⟩
end Go.Proofs.Yteokhnkipandbaa
