/-
  What routers say, as it reads, to what the walks ask of the world. No condition.
-/
import Derived.Test.YtbmbpcibihddaaaDoorOpV
import Derived.Test.YtbmbpcibihddaaaDoorOpen
import Derived.Test.YtbmbpcibihddaaaDoorRows
namespace Go.Proofs.YtbmbpcibihddaaaDoor
open Go.ChangeShapes Go.WideShapes Go.ChangeAt Go.RowKit

section
variable {H : Type} {enc : TypeId × Value → H} {P : Program} {w : World} {base : Nat} {spare : Nat → Bool} {held : Bool}
theorem trod_fields {t : TypeId} {fs : Array Field} {fuel : Nat} {cs : List Value} {x : DataW H × List MemPlace} (ht : P.underlying t = some (.struct fs)) (h : DataW.trod enc P w base spare held fuel t cs = some x) :
    cs.length = P.cellsOf t ∧ ∃ n, ∀ (i : Nat) (f : Field), fs[i]? = some f → ∃ y, DataW.trod enc P w base spare held n f.type ((cs.drop f.offset).take (P.cellsOf f.type)) = some y := by
  obtain ⟨xs, n, _, _, hl, hlen, hf⟩ := DataW.trod_struct ht h
  refine ⟨hl, n, fun i f hi => ?_⟩
  have hx := hf i f hi
  have : i < xs.length := by
    rw [hlen]
    rcases Nat.lt_or_ge i fs.size with h | h
    · exact h
    · rw [Array.getElem?_eq_none h] at hi; cases hi
  rw [List.getElem?_eq_getElem this] at hx
  exact ⟨_, hx⟩
theorem i64_wf {n : Int} (h : (Lit.int .i64 n).wf = true) : -9223372036854775808 ≤ n ∧ n ≤ 9223372036854775807 := by
  simpa [Lit.wf, IntKind.min, IntKind.max, IntKind.signed, IntKind.bits] using h
theorem cell_one {cs : List Value} {j : Nat} {v : Value} (h : (cs.drop j).take 1 = [v]) : cs[j]? = some v := by
  have : ((cs.drop j).take 1)[0]? = some v := by rw [h]; rfl
  simpa [List.getElem?_take, List.getElem?_drop] using this
theorem field_int {k : IntKind} {fs : Array Field} {n : Nat} {cs : List Value} (hf : ∀ (i : Nat) (f : Field), fs[i]? = some f → ∃ y, DataW.trod enc P w base spare held n f.type ((cs.drop f.offset).take (P.cellsOf f.type)) = some y)
    (i : Nat) (f : Field) (hi : fs[i]? = some f) (j : Nat) (ho : f.offset = j) (ht : P.underlying f.type = some (.int k)) (hc : P.cellsOf f.type = 1) : ∃ a, cs[j]? = some (.int k a) ∧ (Lit.int k a).wf = true := by
  obtain ⟨y, g⟩ := hf i f hi
  rw [ho, hc] at g
  obtain ⟨a, e, _, hw⟩ := DataW.trod_int ht g
  exact ⟨a, cell_one e, hw⟩
theorem field_any {fs : Array Field} {n : Nat} {cs : List Value} (hf : ∀ (i : Nat) (f : Field), fs[i]? = some f → ∃ y, DataW.trod enc P w base spare held n f.type ((cs.drop f.offset).take (P.cellsOf f.type)) = some y)
    (i : Nat) (f : Field) (hi : fs[i]? = some f) (j s : Nat) (t : TypeId) (ho : f.offset = j) (ht : f.type = t) (hc : P.cellsOf t = s) : ∃ y, DataW.trod enc P w base spare held n t ((cs.drop j).take s) = some y := by
  obtain ⟨y, g⟩ := hf i f hi
  rw [ho, ht, hc] at g
  exact ⟨y, g⟩
theorem field_bool {fs : Array Field} {n : Nat} {cs : List Value} (hf : ∀ (i : Nat) (f : Field), fs[i]? = some f → ∃ y, DataW.trod enc P w base spare held n f.type ((cs.drop f.offset).take (P.cellsOf f.type)) = some y)
    (i : Nat) (f : Field) (hi : fs[i]? = some f) (j : Nat) (ho : f.offset = j) (ht : P.underlying f.type = some .bool) (hc : P.cellsOf f.type = 1) : ∃ a, cs[j]? = some (.bool a) := by
  obtain ⟨y, g⟩ := hf i f hi
  rw [ho, hc] at g
  obtain ⟨a, e, _⟩ := DataW.trod_bool ht g
  exact ⟨a, cell_one e⟩
end
section
variable {H : Type} {enc : TypeId × Value → H} {w : World} {base : Nat} {spare : Nat → Bool} {held : Bool}
theorem u32_nat {n : Int} (h : (Lit.int .u32 n).wf = true) : ∃ m : Nat, n = (m : Int) ∧ m < 4294967296 := by
  have hx : 0 ≤ n ∧ n ≤ 4294967295 := by simpa [Lit.wf, IntKind.min, IntKind.max, IntKind.signed, IntKind.bits] using h
  exact ⟨n.toNat, by omega, by omega⟩
theorem open_said {fuel : Nat} {cs : List Value} {x : DataW H × List MemPlace} (h : DataW.trod enc Tryd.prog w base spare held fuel 24 cs = some x) :
    ∃ o : OV, cs = o.cells.toList ∧ o.id < 4294967296 := by
  obtain ⟨hlen, n, hf⟩ := trod_fields Tryd.underlying24 h
  rw [show Tryd.prog.cellsOf 24 = 5 by kernel_rfl] at hlen
  obtain ⟨a0, e0, w0⟩ := field_int hf 0 _ rfl 0 rfl Tryd.underlying3 (by kernel_rfl)
  obtain ⟨a1, e1, w1⟩ := field_int hf 1 _ rfl 1 rfl Tryd.underlying3 (by kernel_rfl)
  obtain ⟨a2, e2, w2⟩ := field_int hf 2 _ rfl 2 rfl Tryd.underlying22 (by kernel_rfl)
  obtain ⟨a3, e3⟩ := field_bool hf 3 _ rfl 3 rfl Tryd.underlying4 (by kernel_rfl)
  obtain ⟨a4, e4, w4⟩ := field_int hf 4 _ rfl 4 rfl Tryd.underlying3 (by kernel_rfl)
  obtain ⟨m, rfl, hm⟩ := u32_nat w2
  clear hf h
  match cs, hlen with
  | [b0, b1, b2, b3, b4], _ =>
    simp at e0 e1 e2 e3 e4
    subst e0 e1 e2 e3 e4
    exact ⟨⟨a0, a1, m, a3, a4⟩, rfl, hm⟩
end
end Go.Proofs.YtbmbpcibihddaaaDoor
