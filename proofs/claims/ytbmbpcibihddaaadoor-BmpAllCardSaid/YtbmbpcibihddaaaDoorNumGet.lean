/-
  The number of bytes: what the program's Get and the document's Get return, and which numbers fit. No condition but that the bytes read as data.
-/
import Derived.Test.YtbmbpcibihddaaaDoorNumPut
import Derived.LoopTactic
namespace Go.Proofs.YtbmbpcibihddaaaDoor
open Go.ChangeShapes Go.WideShapes Go.ChangeAt Go.RowKit

theorem get_bad (A : Option Addr) (n c : Nat) (w : World) (hn : n ≤ 9223372036854775807) (h : n < 1 ∨ 4 < n) : Calls Tryd.prog 62 #[.slice A n c] w fun e w' => e = .returned (.tuple #[.int .i64 0, .int .i64 10]) ∧ w = w' := by
  by_cases h1 : (n : Int) < 1
  · go_enter Tryd.func62, Tryd.ntmps62
    go_wp2
    go_ret2
    exact ⟨rfl, rfl⟩
  · have h4 : (4 : Int) < n := by omega
    clear h
    go_enter Tryd.func62, Tryd.ntmps62
    go_wp2
    go_ret2
    exact ⟨rfl, rfl⟩

theorem ofBe_take (l : List UInt8) (k : Nat) (h : k < l.length) : ofBe (l.take (k + 1)) = 256 * ofBe (l.take k) + l[k].toNat := by
  rw [List.take_succ_eq_append_getElem h, ofBe_snoc]

theorem bits_or_u32 (m x : Nat) (hm : m < 16777216) (hx : x < 2 ^ 8) : bits .or .u32 ((m : Int) * 256) (x : Int) = ((256 * m + x : Nat) : Int) := by
  have e : ((m : Int) * 256) = ((256 * m : Nat) : Int) := by omega
  have ho : 256 * m ||| x = 256 * m + x := (Nat.two_pow_add_eq_or_of_lt (i := 8) hx m).symm
  have h1 : (BitVec.ofInt 32 ((256 * m : Nat) : Int)).toNat = 256 * m := by
    rw [BitVec.ofInt_natCast, BitVec.toNat_ofNat]; exact Nat.mod_eq_of_lt (by omega)
  have h2 : (BitVec.ofInt 32 (x : Int)).toNat = x := by
    rw [BitVec.ofInt_natCast, BitVec.toNat_ofNat]; exact Nat.mod_eq_of_lt (by omega)
  have hw : ∀ n : Int, IntKind.u32.wrap n = n % 4294967296 := fun n => by simp [IntKind.wrap, IntKind.signed, IntKind.bits]
  rw [e]
  show IntKind.u32.wrap ((BitVec.ofInt 32 ((256 * m : Nat) : Int) ||| BitVec.ofInt 32 (x : Int)).toNat : Int) = _
  rw [BitVec.toNat_or, h1, h2, ho, hw]
  omega
set_option maxRecDepth 10000 in
theorem get_ok (A : Option Addr) (c : Nat) (l : List UInt8) (F : Nat → Prop) (w : World) (h1 : 1 ≤ l.length) (h4 : l.length ≤ 4) (hr : Reads w F A (l.map vb)) :
    Calls Tryd.prog 62 #[.slice A l.length c] w fun e w' => e = .returned (.tuple #[.int .i64 (ofBe l), .int .i64 0]) ∧ w = w' := by
  have g1 : ¬ (l.length : Int) < 1 := by omega
  have g4 : ¬ (4 : Int) < l.length := by omega
  go_enter Tryd.func62, Tryd.ntmps62
  go_wp2
  go_loop [4, 17] (fun n i => ∃ k : Nat, k ≤ l.length ∧ i = .int .i64 k ∧ n = .int .u32 (ofBe (l.take k) : Nat)) (fun _ i => l.length - (intOf i).toNat)
  case atStart => exact ⟨0, by omega, rfl, rfl⟩
  case round =>
    obtain ⟨k, hk, rfl, rfl⟩ := hrel
    by_cases hkl : k < l.length
    case pos =>
      obtain ⟨b, off, rfl, _, _, hc⟩ := hr.at_ (k := k) (by simpa using hkl)
      simp only [List.getElem_map, vb] at hc
      have hlt := ofBe_lt (l.take k)
      have hN := ofBe_take l k hkl
      have hc8 := l[k].toNat_lt
      have k0 : (0 : Int) ≤ (k : Int) := by omega
      have k1 : (k : Int) < (l.length : Int) := by omega
      have hm : ofBe (l.take k) < 16777216 := by
        have : 256 ^ (l.take k).length ≤ 256 ^ 3 := Nat.pow_le_pow_right (by decide) (by simp; omega)
        omega
      have HN := Lib.hid hN
      clear hN hr hlt
      generalize l[k].toNat = x at hc hc8 HN
      generalize ofBe (l.take k) = m at hm HN ⊢
      go_wp2
      exact ⟨⟨k + 1, by omega, by simp, by rw [HN.out, bits_or_u32 m x hm hc8]⟩, by simp [intOf]; omega⟩
    case neg =>
      have e : k = l.length := by omega
      subst e
      rw [List.take_length]
      have hlt := ofBe_lt l
      have hm : ofBe l < 4294967296 := by
        have : 256 ^ l.length ≤ 256 ^ 4 := Nat.pow_le_pow_right (by decide) h4
        omega
      have k1 : ¬ (l.length : Int) < (l.length : Int) := by omega
      go_wp2
      go_ret2
      exact ⟨rfl, rfl⟩

set_option maxRecDepth 10000 in
theorem rget_ok (A : Option Addr) (c : Nat) (l : List UInt8) (F : Nat → Prop) (w : World) (h4 : l.length ≤ 4) (hr : Reads w F A (l.map vb)) :
    Calls Tryd.prog 55 #[.slice A l.length c] w fun e w' => e = .returned (.int .i64 (ofBe l)) ∧ w = w' := by
  go_enter Tryd.func55, Tryd.ntmps55
  go_wp2
  go_loop [3, 4] (fun n i => ∃ k : Nat, k ≤ l.length ∧ i = .int .i64 k ∧ n = .int .i64 (ofBe (l.take k) : Nat)) (fun _ i => l.length - (intOf i).toNat)
  case atStart => exact ⟨0, by omega, rfl, rfl⟩
  case round =>
    obtain ⟨k, hk, rfl, rfl⟩ := hrel
    by_cases hkl : k < l.length
    case pos =>
      obtain ⟨b, off, rfl, _, _, hc⟩ := hr.at_ (k := k) (by simpa using hkl)
      simp only [List.getElem_map, vb] at hc
      have hlt := ofBe_lt (l.take k)
      have hN := ofBe_take l k hkl
      have hc8 := l[k].toNat_lt
      have k0 : (0 : Int) ≤ (k : Int) := by omega
      have k1 : (k : Int) < (l.length : Int) := by omega
      have hm : ofBe (l.take k) < 16777216 := by
        have : 256 ^ (l.take k).length ≤ 256 ^ 3 := Nat.pow_le_pow_right (by decide) (by simp; omega)
        omega
      have HN := Lib.hid hN
      clear hN hr hlt
      generalize l[k].toNat = x at hc hc8 HN
      generalize ofBe (l.take k) = m at hm HN ⊢
      go_wp2
      exact ⟨⟨k + 1, by omega, by simp, by rw [HN.out]; simp⟩, by simp [intOf]; omega⟩
    case neg =>
      have e : k = l.length := by omega
      subst e
      rw [List.take_length]
      have k1 : ¬ (l.length : Int) < (l.length : Int) := by omega
      go_wp2
      go_ret
      exact ⟨rfl, rfl⟩
end Go.Proofs.YtbmbpcibihddaaaDoor
