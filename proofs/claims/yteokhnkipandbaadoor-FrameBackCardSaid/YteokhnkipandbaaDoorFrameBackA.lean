/-
  Messages' bytes, one behind the other: what a beginning of them is as a head. No program in sight. No condition.
-/
import Derived.Test.YteokhnkipandbaaDoorFrameTells
namespace Go.Proofs.YteokhnkipandbaaDoor
open Go.ChangeShapes Go.WideShapes Go.ChangeAt Go.RowKit

def puts (l : List MV) : List UInt8 := l.flatMap MV.put
theorem puts_take {l : List MV} {k : Nat} (h : k < l.length) : puts (l.take (k + 1)) = puts (l.take k) ++ l[k].put := by
  unfold puts
  rw [List.take_succ_eq_append_getElem h, List.flatMap_append]
  simp
theorem puts_drop {l : List MV} {k : Nat} (h : k < l.length) : puts (l.drop k) = l[k].put ++ puts (l.drop (k + 1)) := by
  unfold puts
  rw [List.drop_eq_getElem_cons h, List.flatMap_cons]
theorem puts_len (l : List MV) (h : ∀ m ∈ l, m.ok = true) : (puts l).length ≤ 4096 * l.length := by
  induction l with
  | nil => simp [puts]
  | cons m ms ih =>
    have h1 := ih (fun x hx => h x (List.mem_cons_of_mem _ hx))
    have h2 : m.put.length ≤ 4096 := by
      have := h m (List.mem_cons_self ..)
      rw [put_len]
      simp [MV.ok, fknownB, fitsF] at this
      omega
    have e : puts (m :: ms) = m.put ++ puts ms := by simp [puts]
    rw [e, List.length_append, List.length_cons]
    omega
theorem headR_long {l : List UInt8} (h : 19 ≤ l.length) : headR l = headOf (l.take 16) (l.getD 16 0) (l.getD 17 0) (l.getD 18 0) := if_neg (by omega)
theorem getD_app {a b : List UInt8} {i : Nat} (h : i < a.length) : (a ++ b).getD i 0 = a.getD i 0 := by
  simp [List.getD, List.getElem?_append_left h]
theorem headR_same {a b r s : List UInt8} (ha : 19 ≤ a.length) (hb : 19 ≤ b.length) (h : a ++ r = b ++ s) : headR a = headR b := by
  rw [headR_long ha, headR_long hb]
  have t : a.take 16 = b.take 16 := by
    have := congrArg (List.take 16) h
    rwa [List.take_append_of_le_length (by omega), List.take_append_of_le_length (by omega)] at this
  have g : ∀ i, i < 19 → a.getD i 0 = b.getD i 0 := fun i hi => by
    have : (a ++ r).getD i 0 = (b ++ s).getD i 0 := by rw [h]
    rwa [getD_app (by omega), getD_app (by omega)] at this
  rw [t, g 16 (by omega), g 17 (by omega), g 18 (by omega)]

/-- WHAT THE STREAM's BYTES ARE AS A HEAD: no message is whole, or the next one is -/
theorem next_case (l : List MV) (bs rest : List UInt8) (k : Nat) (hk : k ≤ l.length) (hall : ∀ m ∈ l, m.ok = true) (h : bs ++ rest = puts (l.drop k)) :
    ((headR bs).code = 0 ∧ ((headR bs).k = 0 ∨ (bs.length : Int) < (headR bs).n) ∧ ((k = l.length ∧ bs = []) ∨ ∃ hk : k < l.length, bs.length < (l[k]).put.length)) ∨
    (∃ hk : k < l.length, headR bs = ⟨(l[k]).ty, 19 + (l[k]).d.length, 0, 0, []⟩ ∧ (l[k]).put.length ≤ bs.length ∧ (bs.take (l[k]).put.length).drop 19 = (l[k]).d ∧ bs.drop (l[k]).put.length ++ rest = puts (l.drop (k + 1))) := by
  by_cases hlt : k < l.length
  · rw [puts_drop hlt] at h
    have hok := hall _ (List.getElem_mem hlt)
    have hh := head_put _ hok
    have hl := put_len l[k]
    by_cases h19 : bs.length < 19
    · refine .inl ⟨?_, ?_, .inr ⟨hlt, by omega⟩⟩
      · rw [show headR bs = ⟨0, 0, 0, 0, []⟩ from if_pos h19]
      · rw [show headR bs = ⟨0, 0, 0, 0, []⟩ from if_pos h19]
        exact .inl rfl
    · have hs := headR_same (by omega) (by omega) h
      rw [hh] at hs
      by_cases hb : bs.length < (l[k]).put.length
      · refine .inl ⟨by rw [hs], .inr ?_, .inr ⟨hlt, hb⟩⟩
        rw [hs]
        simp only
        omega
      · refine .inr ⟨hlt, hs, by omega, ?_, ?_⟩
        · have := congrArg (List.take (l[k]).put.length) h
          rw [List.take_append_of_le_length (by omega), List.take_append_of_le_length (Nat.le_refl _), List.take_length] at this
          rw [this]
          simp [MV.put, be]
        · have := congrArg (List.drop (l[k]).put.length) h
          rw [List.drop_append_of_le_length (by omega), List.drop_append_of_le_length (Nat.le_refl _), List.drop_length, List.nil_append] at this
          exact this
  · have he : k = l.length := by omega
    have hn : bs ++ rest = [] := by rw [h, he, List.drop_length]; rfl
    have hbn : bs = [] := (List.append_eq_nil_iff.1 hn).1
    subst hbn
    exact .inl ⟨rfl, .inl rfl, .inl ⟨he, rfl⟩⟩
end Go.Proofs.YteokhnkipandbaaDoor
