/-
  Every function's drawn regions are in order. No condition.
-/
import Derived.Test.YtojcehhfeleclaaGreatDoorTopC
namespace Go.Proofs.YtojcehhfeleclaaGreatDoor
noncomputable def fok (fn : Func) : Bool := match fn.body with
  | some c => Ev.codeOk Tryz.prog 12 c
  | none => true
noncomputable def part (k : Nat) : List Func := (Tryz.prog.funcs.toList.drop k).take 100
theorem fok0 : (part 0).all fok = true := by kernel_rfl
theorem fok1 : (part 100).all fok = true := by kernel_rfl
theorem fok2 : (part 200).all fok = true := by kernel_rfl
theorem fok3 : (part 300).all fok = true := by kernel_rfl
theorem fok4 : (part 400).all fok = true := by kernel_rfl
theorem fok5 : (part 500).all fok = true := by kernel_rfl
theorem fok6 : (part 600).all fok = true := by kernel_rfl
theorem fsize : Tryz.prog.funcs.size = 690 := by kernel_rfl
theorem part_mem {l : List Func} {p : Func → Bool} {i : Nat} {x : Func} (k : Nat) (h : ((l.drop k).take 100).all p = true) (h1 : k ≤ i) (h2 : i < k + 100) (hx : l[i]? = some x) : p x = true := by
  rw [List.all_eq_true] at h
  refine h x (List.mem_of_getElem? (i := i - k) ?_)
  rw [List.getElem?_take, if_pos (by omega), List.getElem?_drop, show k + (i - k) = i by omega]
  exact hx
theorem funcsOk : Ev.FuncsOk Tryz.prog 12 := by
  intro f fn c hf hc
  have hlt : @LT.lt Nat _ f 690 := by
    have := (Array.getElem?_eq_some_iff.1 hf).1
    rwa [fsize] at this
  have hl : Tryz.prog.funcs.toList[f]? = some fn := by rw [Array.getElem?_toList]; exact hf
  have hk : fok fn = true := by
    rcases Nat.lt_or_ge f 100 with h | h
    · exact part_mem 0 fok0 (by omega) (by omega) hl
    rcases Nat.lt_or_ge f 200 with h' | h'
    · exact part_mem 100 fok1 (by omega) (by omega) hl
    rcases Nat.lt_or_ge f 300 with h2 | h2
    · exact part_mem 200 fok2 (by omega) (by omega) hl
    rcases Nat.lt_or_ge f 400 with h3 | h3
    · exact part_mem 300 fok3 (by omega) (by omega) hl
    rcases Nat.lt_or_ge f 500 with h4 | h4
    · exact part_mem 400 fok4 (by omega) (by omega) hl
    rcases Nat.lt_or_ge f 600 with h5 | h5
    · exact part_mem 500 fok5 (by omega) (by omega) hl
    · exact part_mem 600 fok6 (by omega) (by omega) hl
  unfold fok at hk
  rw [hc] at hk
  exact hk
end Go.Proofs.YtojcehhfeleclaaGreatDoor
