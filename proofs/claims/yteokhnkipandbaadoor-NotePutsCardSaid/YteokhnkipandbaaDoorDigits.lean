/-
  A number's digits, as the document makes them. No condition.
-/
import Derived.Test.YteokhnkipandbaaDoorFrameA
import Derived.Lib.ItoaNum
namespace Go.Proofs.YteokhnkipandbaaDoor
open Go.ChangeShapes Go.WideShapes Go.ChangeAt Go.RowKit

theorem digit_piece (k : Nat) (h : k < 10) : ((⟨#[48, 49, 50, 51, 52, 53, 54, 55, 56, 57]⟩ : ByteArray).extract k (k + 1)) = str [UInt8.ofNat (48 + k)] := by
  have hk : k = 0 ∨ k = 1 ∨ k = 2 ∨ k = 3 ∨ k = 4 ∨ k = 5 ∨ k = 6 ∨ k = 7 ∨ k = 8 ∨ k = 9 := by omega
  rcases hk with rfl | rfl | rfl | rfl | rfl | rfl | rfl | rfl | rfl | rfl <;> rfl
theorem str_append (a b : List UInt8) : str a ++ str b = str (a ++ b) := by
  apply ByteArray.ext
  simp [str]
theorem dec_step (k : Nat) (h : 0 < k) (t : List UInt8) : (k / 10 = 0 → Lib.decDigits k ++ t = UInt8.ofNat (48 + k % 10) :: t) ∧ (0 < k / 10 → Lib.decDigits k ++ t = Lib.decDigits (k / 10) ++ (UInt8.ofNat (48 + k % 10) :: t)) := by
  constructor
  · intro h0
    rw [Lib.decDigits, dif_pos (by omega), Nat.mod_eq_of_lt (by omega)]
    rfl
  · intro h0
    rw [Lib.decDigits, dif_neg (by omega)]
    simp
theorem dec_len : ∀ n : Nat, (Lib.decDigits n).length ≤ n / 10 + 1 := fun n => by
  induction n using Nat.strongRecOn with
  | ind n ih =>
    by_cases h : n < 10
    · rw [Lib.decDigits, dif_pos h]; simp
    · rw [Lib.decDigits, dif_neg h]
      have := ih (n / 10) (by omega)
      simp
      omega
def emptyV : Value → Nat
  | .string b => if b.size = 0 then 1 else 0
  | _ => 0
theorem emptyV_str (t : List UInt8) : emptyV (.string (str t)) = if t = [] then 1 else 0 := by
  cases t <;> simp [emptyV, str, ByteArray.size]

set_option maxHeartbeats 1000000 in
theorem digits_ok (N : Nat) (w : World) (hN : N ≤ 9223372036854775807) : Calls Tryd.prog 125 #[.int .i64 N] w fun e w' => e = .returned (.string (str (Lib.decDigits N))) ∧ w' = w := by
  go_enter Tryd.func125, Tryd.ntmps125
  go_wp2_with fail
  go_loop [0, 3] (fun n s => ∃ (k : Nat) (t : List UInt8), k ≤ N ∧ n = .int .i64 k ∧ s = .string (str t) ∧ ((t = [] ∧ k = N) ∨ (0 < k ∧ t ≠ [] ∧ Lib.decDigits N = Lib.decDigits k ++ t) ∨ (k = 0 ∧ t ≠ [] ∧ Lib.decDigits N = t))) (fun n s => 2 * (intOf n).toNat + emptyV s)
  case atStart => exact ⟨N, [], Nat.le_refl _, rfl, rfl, .inl ⟨rfl, rfl⟩⟩
  case round =>
    obtain ⟨k, t, hk, rfl, rfl, ht⟩ := hrel
    by_cases hdone : k = 0 ∧ t ≠ []
    case pos =>
      obtain ⟨rfl, hne⟩ := hdone
      have hq : Lib.decDigits N = t := by
        rcases ht with ⟨h, _⟩ | ⟨h, _⟩ | ⟨_, _, h⟩
        · exact absurd h hne
        · omega
        · exact h
      have hz : ((str t).toList == ([] : List UInt8)) = false := by rw [str_toList]; cases t with
        | nil => exact absurd rfl hne
        | cons a b => rfl
      have HQ := Lib.hid (congrArg str hq)
      clear ht hq
      generalize str t = q at *
      go_wp2_with fail
      go_ret
      exact ⟨by rw [HQ.out]; rfl, rfl⟩
    case neg =>
      have hin : 0 < k ∨ t = [] := by
        rcases ht with ⟨h, _⟩ | ⟨h, _⟩ | ⟨h1, h2, _⟩
        · exact .inr h
        · exact .inl h
        · exact absurd ⟨h1, h2⟩ hdone
      have hcond : (0 : Int) < k ∨ (¬ (0 : Int) < k ∧ t = []) := by
        rcases hin with h | h
        · exact .inl (by omega)
        · by_cases h0 : (0 : Int) < k
          · exact .inl h0
          · exact .inr ⟨h0, h⟩
      have hnew : (k / 10 = 0 ∧ Lib.decDigits N = UInt8.ofNat (48 + k % 10) :: t) ∨ (0 < k / 10 ∧ Lib.decDigits N = Lib.decDigits (k / 10) ++ (UInt8.ofNat (48 + k % 10) :: t)) := by
        have hall : Lib.decDigits N = Lib.decDigits k ++ t := by
          rcases ht with ⟨h1, h2⟩ | ⟨_, _, h⟩ | ⟨h1, h2, _⟩
          · rw [h1, h2, List.append_nil]
          · exact h
          · exact absurd ⟨h1, h2⟩ hdone
        by_cases h10 : k / 10 = 0
        · refine .inl ⟨h10, ?_⟩
          rw [hall]
          by_cases hk0 : 0 < k
          · exact (dec_step k hk0 t).1 h10
          · obtain rfl : k = 0 := by omega
            rw [Lib.decDigits, dif_pos (by omega)]
            rfl
        · exact .inr ⟨by omega, by rw [hall]; exact (dec_step k (by omega) t).2 (by omega)⟩
      have kk : k / 10 ≤ k := Nat.div_le_self _ _
      have kl : k % 10 < 10 := Nat.mod_lt _ (by omega)
      have k0 : (0 : Int) ≤ (k : Int) := by omega
      have kq : 0 < k → k / 10 < k := fun h => by omega
      have km : (k : Int) % 10 = ((k % 10 : Nat) : Int) := by omega
      have kd : (k : Int) / 10 = ((k / 10 : Nat) : Int) := by omega
      clear ht hdone
      generalize k % 10 = r at hnew kl km
      generalize k / 10 = q at hnew kd kk kq
      have hlen : (str [UInt8.ofNat (48 + r)]).size + (str t).size ≤ 1000000000000000000 := by
        have h1 := dec_len N
        have h2 : t.length + 1 ≤ (Lib.decDigits N).length := by
          rcases hnew with ⟨_, h⟩ | ⟨_, h⟩ <;> rw [h] <;> simp
        have h3 : (str t).size = t.length := rfl
        have h4 : (str [UInt8.ofNat (48 + r)]).size = 1 := rfl
        rw [h3, h4]
        omega
      have HJ := Lib.hid (str_append [UInt8.ofNat (48 + r)] t)
      have HE := Lib.hid (emptyV_str (UInt8.ofNat (48 + r) :: t))
      have HE2 := Lib.hid (emptyV_str t)
      have HN := Lib.hid hnew
      have hp := digit_piece r kl
      have HT := Lib.hid hin
      have HQ := Lib.hid kq
      clear hnew hin kq
      have ht0 : t = [] → ((str t).toList == ([] : List UInt8)) = true := fun h => by rw [str_toList, h]; rfl
      generalize hs0 : str [UInt8.ofNat (48 + r)] = s0 at hp hlen HJ
      generalize hs1 : str t = s1 at ht0 hlen HJ HE2
      have HS1 := Lib.hid hs1
      clear hs0 hs1
      have z1 : (9223372036854775807 < s0.size + s1.size) = False := eq_false (by omega)
      have fin : (∃ (k : Nat) (t_1 : List UInt8), k ≤ N ∧ Value.int .i64 (q : Int) = .int .i64 k ∧ Value.string (s0 ++ s1) = .string (str t_1) ∧ ((t_1 = [] ∧ k = N) ∨ (0 < k ∧ t_1 ≠ [] ∧ Lib.decDigits N = Lib.decDigits k ++ t_1) ∨ (k = 0 ∧ t_1 ≠ [] ∧ Lib.decDigits N = t_1))) ∧
          2 * (intOf (Value.int .i64 (q : Int))).toNat + emptyV (.string (s0 ++ s1)) < 2 * (intOf (Value.int .i64 (k : Int))).toNat + emptyV (.string s1) := by
        refine ⟨⟨q, UInt8.ofNat (48 + r) :: t, by omega, rfl, by rw [HJ.out]; rfl, .inr ?_⟩, ?_⟩
        · rcases HN.out with ⟨h1, h2⟩ | ⟨h1, h2⟩
          · exact .inr ⟨h1, by simp, h2⟩
          · exact .inl ⟨h1, by simp, h2⟩
        · have e1 : emptyV (.string (s0 ++ s1)) = 0 := by rw [HJ.out]; exact HE.out.trans (if_neg (by simp))
          rw [e1, HE2.out]
          have e2 : (intOf (Value.int .i64 (q : Int))).toNat = q := by simp [intOf]
          have e3 : (intOf (Value.int .i64 (k : Int))).toNat = k := by simp [intOf]
          rw [e2, e3]
          rcases HT.out with h | h
          · have := HQ.out h
            omega
          · rw [if_pos h]
            by_cases hk0 : 0 < k
            · have := HQ.out hk0
              omega
            · omega
      have FIN := Lib.hid fin
      clear fin
      rcases hcond with hcond | ⟨hcond, he⟩
      · go_wp2_with fail
        exact FIN.out
      · have ht1 := ht0 he
        clear ht0
        obtain rfl : k = 0 := by omega
        obtain rfl : r = 0 := by omega
        obtain rfl : q = 0 := by omega
        subst hp
        go_wp2_with fail
        exact FIN.out
end Go.Proofs.YteokhnkipandbaaDoor
