/-
  What an argument of reader calls that reads as data gives a walk: rows of two numbers; and fields of structs. No program in sight. No condition.
-/
import Derived.Test.YteokhnkipandbaaNumReadsWalk
import Derived.Test.YteokhnkipandbaaOpen
namespace Go.Proofs.Yteokhnkipandbaa
open Go.ChangeShapes Go.WideShapes Go.ChangeAt Go.RowKit

section
variable {H : Type} {enc : TypeId × Value → H} {P : Program} {w : World} {base : Nat} {spare : Nat → Bool} {held : Bool}
theorem trod_field {t : TypeId} {fs : Array Field} {fuel : Nat} {cs : List Value} {x : DataW H × List MemPlace} (ht : P.underlying t = some (.struct fs)) (h : DataW.trod enc P w base spare held fuel t cs = some x) :
    cs.length = P.cellsOf t ∧ ∃ n, ∀ (i : Nat) (f : Field), fs[i]? = some f → ∃ y, DataW.trod enc P w base spare held n f.type ((cs.drop f.offset).take (P.cellsOf f.type)) = some y := by
  obtain ⟨xs, n, _, _, hl, hlen, hf⟩ := DataW.trod_struct ht h
  refine ⟨hl, n, fun i f hi => ?_⟩
  have hx := hf i f hi
  have : i < xs.length := by
    rw [hlen]
    rcases Nat.lt_or_ge i fs.size with h | h
    · exact h
    · rw [Array.getElem?_eq_none h] at hi; cases hi
  rw [List.getElem?_eq_getElem this] at hx
  exact ⟨_, hx⟩
theorem cell_one {cs : List Value} {j : Nat} {v : Value} (h : (cs.drop j).take 1 = [v]) : cs[j]? = some v := by
  have : ((cs.drop j).take 1)[0]? = some v := by rw [h]; rfl
  simpa [List.getElem?_take, List.getElem?_drop] using this
theorem field_int {k : IntKind} {fs : Array Field} {n : Nat} {cs : List Value} (hf : ∀ (i : Nat) (f : Field), fs[i]? = some f → ∃ y, DataW.trod enc P w base spare held n f.type ((cs.drop f.offset).take (P.cellsOf f.type)) = some y)
    (i : Nat) (f : Field) (hi : fs[i]? = some f) (j : Nat) (ho : f.offset = j) (ht : P.underlying f.type = some (.int k)) (hc : P.cellsOf f.type = 1) : ∃ a, cs[j]? = some (.int k a) := by
  obtain ⟨y, g⟩ := hf i f hi
  rw [ho, hc] at g
  obtain ⟨a, e, _, _⟩ := DataW.trod_int ht g
  exact ⟨a, cell_one e⟩
end
section
variable {H : Type} {enc : TypeId × Value → H} {w : World} {base : Nat} {spare : Nat → Bool} {held : Bool}
theorem two_cells {cs : List Value} {a b : Value} (hl : cs.length = 2) (h0 : cs[0]? = some a) (h1 : cs[1]? = some b) : cs = [a, b] := by
  match cs, hl with
  | [x, y], _ =>
    simp at h0 h1
    subst h0 h1
    rfl
theorem open_rdops {fuel : Nat} {cs : List Value} {x : DataW H × List MemPlace} (h : DataW.trod enc Try.prog w base spare held fuel 40 cs = some x) :
    ∃ (A : Option Addr) (cap : Nat) (l : List RdOp), cs = [.slice A l.length cap] ∧ l.length ≤ maxLen ∧ Reads w (fun _ => True) A (l.flatMap RdOp.cells) := by
  obtain ⟨A, cap, ys, hcs, hl, hm, hn, hr, _⟩ := open_row (sz := 2) (Y := RdOp) RdOp.cells (fun _ => True) Try.underlying40 (by kernel_rfl) (by omega)
    (fun n cs' x hx => by
      obtain ⟨hlen, n, hf⟩ := trod_field Try.underlying47 hx
      rw [show Try.prog.cellsOf 47 = 2 by kernel_rfl] at hlen
      obtain ⟨a0, e0⟩ := field_int hf 0 _ rfl 0 rfl Try.underlying3 (by kernel_rfl)
      obtain ⟨a1, e1⟩ := field_int hf 1 _ rfl 1 rfl Try.underlying3 (by kernel_rfl)
      exact ⟨⟨a0, a1⟩, two_cells hlen e0 e1, trivial⟩) h
  exact ⟨A, cap, ys, hcs, by omega, hr⟩
end
end Go.Proofs.Yteokhnkipandbaa
