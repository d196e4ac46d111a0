/-
  Calls, loads as they read, to what the walks ask of the world. No condition.
-/
import Derived.Test.YtneablcgcdmgpaaLoadDoes
import Derived.Test.YtneablcgcdmgpaaLoadO
import Derived.Test.YtneablcgcdmgpaaOpen
import Derived.Test.YtneablcgcdmgpaaRows
namespace Go.Proofs.Ytneablcgcdmgpaa
open Go.ChangeShapes Go.WideShapes Go.ChangeAt Go.RowKit

section
variable {H : Type} {enc : TypeId × Value → H} {P : Program} {w : World} {base : Nat} {spare : Nat → Bool} {held : Bool}
theorem trod_fields {t : TypeId} {fs : Array Field} {fuel : Nat} {cs : List Value} {x : DataW H × List MemPlace} (ht : P.underlying t = some (.struct fs)) (h : DataW.trod enc P w base spare held fuel t cs = some x) :
    cs.length = P.cellsOf t ∧ ∃ n, ∀ (i : Nat) (f : Field), fs[i]? = some f → ∃ y, DataW.trod enc P w base spare held n f.type ((cs.drop f.offset).take (P.cellsOf f.type)) = some y := by
  obtain ⟨xs, n, _, _, hl, hlen, hf⟩ := DataW.trod_struct ht h
  refine ⟨hl, n, fun i f hi => ?_⟩
  have hx := hf i f hi
  have : i < xs.length := by
    rw [hlen]
    rcases Nat.lt_or_ge i fs.size with h | h
    · exact h
    · rw [Array.getElem?_eq_none h] at hi; cases hi
  rw [List.getElem?_eq_getElem this] at hx
  exact ⟨_, hx⟩
theorem i64_wf {n : Int} (h : (Lit.int .i64 n).wf = true) : -9223372036854775808 ≤ n ∧ n ≤ 9223372036854775807 := by
  simpa [Lit.wf, IntKind.min, IntKind.max, IntKind.signed, IntKind.bits] using h
theorem cell_one {cs : List Value} {j : Nat} {v : Value} (h : (cs.drop j).take 1 = [v]) : cs[j]? = some v := by
  have : ((cs.drop j).take 1)[0]? = some v := by rw [h]; rfl
  simpa [List.getElem?_take, List.getElem?_drop] using this
theorem field_int {k : IntKind} {fs : Array Field} {n : Nat} {cs : List Value} (hf : ∀ (i : Nat) (f : Field), fs[i]? = some f → ∃ y, DataW.trod enc P w base spare held n f.type ((cs.drop f.offset).take (P.cellsOf f.type)) = some y)
    (i : Nat) (f : Field) (hi : fs[i]? = some f) (j : Nat) (ho : f.offset = j) (ht : P.underlying f.type = some (.int k)) (hc : P.cellsOf f.type = 1) : ∃ a, cs[j]? = some (.int k a) ∧ (Lit.int k a).wf = true := by
  obtain ⟨y, g⟩ := hf i f hi
  rw [ho, hc] at g
  obtain ⟨a, e, _, hw⟩ := DataW.trod_int ht g
  exact ⟨a, cell_one e, hw⟩
theorem field_any {fs : Array Field} {n : Nat} {cs : List Value} (hf : ∀ (i : Nat) (f : Field), fs[i]? = some f → ∃ y, DataW.trod enc P w base spare held n f.type ((cs.drop f.offset).take (P.cellsOf f.type)) = some y)
    (i : Nat) (f : Field) (hi : fs[i]? = some f) (j s : Nat) (t : TypeId) (ho : f.offset = j) (ht : f.type = t) (hc : P.cellsOf t = s) : ∃ y, DataW.trod enc P w base spare held n t ((cs.drop j).take s) = some y := by
  obtain ⟨y, g⟩ := hf i f hi
  rw [ho, ht, hc] at g
  exact ⟨y, g⟩
theorem field_bool {fs : Array Field} {n : Nat} {cs : List Value} (hf : ∀ (i : Nat) (f : Field), fs[i]? = some f → ∃ y, DataW.trod enc P w base spare held n f.type ((cs.drop f.offset).take (P.cellsOf f.type)) = some y)
    (i : Nat) (f : Field) (hi : fs[i]? = some f) (j : Nat) (ho : f.offset = j) (ht : P.underlying f.type = some .bool) (hc : P.cellsOf f.type = 1) : ∃ a, cs[j]? = some (.bool a) := by
  obtain ⟨y, g⟩ := hf i f hi
  rw [ho, hc] at g
  obtain ⟨a, e, _⟩ := DataW.trod_bool ht g
  exact ⟨a, cell_one e⟩
end

section
variable {H : Type} {enc : TypeId × Value → H} {P : Program} {w : World} {base : Nat} {spare : Nat → Bool} {held : Bool}
def One (cs : List Value) : Prop := ∀ c ∈ cs, c.oneCell' = true
theorem field_slice {fs : Array Field} {n : Nat} {cs : List Value} (hf : ∀ (i : Nat) (f : Field), fs[i]? = some f → ∃ y, DataW.trod enc P w base spare held n f.type ((cs.drop f.offset).take (P.cellsOf f.type)) = some y)
    (i : Nat) (f : Field) (hi : fs[i]? = some f) (j : Nat) (ho : f.offset = j) {e : TypeId} (ht : P.underlying f.type = some (.slice e)) (hc : P.cellsOf f.type = 1) : ∃ A m c, cs[j]? = some (.slice A m c) := by
  obtain ⟨y, g⟩ := hf i f hi
  rw [ho, hc] at g
  rcases Go.Deep.open_slice ht g with ⟨e, _⟩ | ⟨a, m, c, _, _, _, _, e, _⟩
  · exact ⟨none, 0, 0, cell_one e⟩
  · exact ⟨some a, m, c, cell_one e⟩
end
/-- loads that came in -/
structure LoadsIn (w : World) (A : Option Addr) (l : LS) : Prop where
  len : l.length ≤ 9223372036854775807
  rd : Reads w (fun _ => True) A (lcells l)
  wf : ∀ p ∈ l, (Lit.int .i64 p.1).wf = true
section
variable {H : Type} {enc : TypeId × Value → H} {w : World} {base : Nat} {spare : Nat → Bool} {held : Bool}
theorem open_op {fuel : Nat} {cs : List Value} {x : DataW H × List MemPlace} (h : DataW.trod enc Try.prog w base spare held fuel 31 cs = some x) :
    ∃ r : LOp, cs = r.cells ∧ (Lit.int .i64 r.i).wf = true := by
  obtain ⟨hlen, n, hf⟩ := trod_fields Try.underlying31 h
  rw [show Try.prog.cellsOf 31 = 3 by kernel_rfl] at hlen
  obtain ⟨a0, e0, w0⟩ := field_int hf 0 _ rfl 0 rfl Try.underlying3 (by kernel_rfl)
  obtain ⟨a1, e1, w1⟩ := field_int hf 1 _ rfl 1 rfl Try.underlying3 (by kernel_rfl)
  obtain ⟨a2, e2, w2⟩ := field_int hf 2 _ rfl 2 rfl Try.underlying3 (by kernel_rfl)
  clear hf h
  match cs, hlen with
  | [b0, b1, b2], _ =>
    simp at e0 e1 e2
    subst e0 e1 e2
    exact ⟨⟨a0, a1, a2⟩, rfl, w1⟩
theorem open_lops {fuel : Nat} {cs : List Value} {x : DataW H × List MemPlace} (h : DataW.trod enc Try.prog w base spare held fuel 22 cs = some x) :
    ∃ (A : Option Addr) (cap : Nat) (l : List LOp), cs = [.slice A l.length cap] ∧ OpsIn w A l := by
  obtain ⟨A, cap, ys, hcs, hl, hm, hn, hr, hg⟩ := open_row (sz := 3) (Y := LOp) LOp.cells (fun r => (Lit.int .i64 r.i).wf = true) Try.underlying22 (by kernel_rfl) (by omega)
    (fun n cs' x hx => open_op hx) h
  exact ⟨A, cap, ys, hcs, by unfold maxLen at hm; omega, hr, fun m hm' => (hg m hm').1⟩
theorem open_load {fuel : Nat} {cs : List Value} {x : DataW H × List MemPlace} (h : DataW.trod enc Try.prog w base spare held fuel 63 cs = some x) :
    ∃ r : Int × Int, cs = [.int .i64 r.1, .int .i64 r.2] ∧ (Lit.int .i64 r.1).wf = true := by
  obtain ⟨hlen, n, hf⟩ := trod_fields Try.underlying63 h
  rw [show Try.prog.cellsOf 63 = 2 by kernel_rfl] at hlen
  obtain ⟨a0, e0, w0⟩ := field_int hf 0 _ rfl 0 rfl Try.underlying3 (by kernel_rfl)
  obtain ⟨a1, e1, w1⟩ := field_int hf 1 _ rfl 1 rfl Try.underlying3 (by kernel_rfl)
  clear hf h
  match cs, hlen with
  | [b0, b1], _ =>
    simp at e0 e1
    subst e0 e1
    exact ⟨(a0, a1), rfl, w0⟩
theorem open_loads {fuel : Nat} {cs : List Value} {x : DataW H × List MemPlace} (h : DataW.trod enc Try.prog w base spare held fuel 26 cs = some x) :
    ∃ (A : Option Addr) (cap : Nat) (l : LS), cs = [.slice A l.length cap] ∧ LoadsIn w A l := by
  obtain ⟨A, cap, ys, hcs, hl, hm, hn, hr, hg⟩ := open_row (sz := 2) (Y := Int × Int) (fun r => [.int .i64 r.1, .int .i64 r.2]) (fun r => (Lit.int .i64 r.1).wf = true) Try.underlying26 (by kernel_rfl) (by omega)
    (fun n cs' x hx => open_load hx) h
  exact ⟨A, cap, ys, hcs, by unfold maxLen at hm; omega, hr, fun m hm' => (hg m hm').1⟩
end
end Go.Proofs.Ytneablcgcdmgpaa
