/-
  From the table of least lengths as it is laid to what the walks ask of the world. No condition.
-/
import Derived.Test.YteokhnkipandbaaDoorFrameA
import Derived.Test.YteokhnkipandbaaDoorOpen
import Derived.Test.YteokhnkipandbaaDoorRows
import Derived.LaidMore
import Derived.Stop.Joined
import Derived.Stop.LaidErr
import Derived.Lib.LaidTab
import Derived.MakeChecks
namespace Go.Proofs.YteokhnkipandbaaDoor
open Go.ChangeShapes Go.WideShapes Go.ChangeAt Go.RowKit

theorem frame_least (W : World) (h : laidMetH Tryd.prog [("bypath/frame.least", Rows.laid_bypath_frame_least)] W) : LeastAt W := by
  rw [MakeChecks.laidMetH_plain _ _ _ (by kernel_rfl)] at h
  have hT : Lib.TabIs Tryd.prog W "bypath/frame.least" .i64 [0, 29, 23, 21, 19] :=
    Lib.tabIs_of_head (P := Tryd.prog) (g := 1) (t := 177) (e := 3) (n := 5) (by kernel_rfl) (by kernel_rfl) Tryd.underlying177 Tryd.underlying3 (by kernel_rfl) (by kernel_rfl) h
  have hg : Tryd.prog.globalNamed "bypath/frame.least" = some 1 := by kernel_rfl
  exact ⟨hT.cell hg 1 (by decide), hT.cell hg 2 (by decide), hT.cell hg 3 (by decide), hT.cell hg 4 (by decide)⟩

section
variable {H : Type} {enc : TypeId × Value → H} {P : Program} {w : World} {base : Nat} {spare : Nat → Bool} {held : Bool}
theorem trod_fields {t : TypeId} {fs : Array Field} {fuel : Nat} {cs : List Value} {x : DataW H × List MemPlace} (ht : P.underlying t = some (.struct fs)) (h : DataW.trod enc P w base spare held fuel t cs = some x) :
    cs.length = P.cellsOf t ∧ ∃ n, ∀ (i : Nat) (f : Field), fs[i]? = some f → ∃ y, DataW.trod enc P w base spare held n f.type ((cs.drop f.offset).take (P.cellsOf f.type)) = some y := by
  obtain ⟨xs, n, _, _, hl, hlen, hf⟩ := DataW.trod_struct ht h
  refine ⟨hl, n, fun i f hi => ?_⟩
  have hx := hf i f hi
  have : i < xs.length := by
    rw [hlen]
    rcases Nat.lt_or_ge i fs.size with h | h
    · exact h
    · rw [Array.getElem?_eq_none h] at hi; cases hi
  rw [List.getElem?_eq_getElem this] at hx
  exact ⟨_, hx⟩
theorem i64_wf {n : Int} (h : (Lit.int .i64 n).wf = true) : -9223372036854775808 ≤ n ∧ n ≤ 9223372036854775807 := by
  simpa [Lit.wf, IntKind.min, IntKind.max, IntKind.signed, IntKind.bits] using h
theorem cell_one {cs : List Value} {j : Nat} {v : Value} (h : (cs.drop j).take 1 = [v]) : cs[j]? = some v := by
  have : ((cs.drop j).take 1)[0]? = some v := by rw [h]; rfl
  simpa [List.getElem?_take, List.getElem?_drop] using this
theorem field_int {k : IntKind} {fs : Array Field} {n : Nat} {cs : List Value} (hf : ∀ (i : Nat) (f : Field), fs[i]? = some f → ∃ y, DataW.trod enc P w base spare held n f.type ((cs.drop f.offset).take (P.cellsOf f.type)) = some y)
    (i : Nat) (f : Field) (hi : fs[i]? = some f) (j : Nat) (ho : f.offset = j) (ht : P.underlying f.type = some (.int k)) (hc : P.cellsOf f.type = 1) : ∃ a, cs[j]? = some (.int k a) ∧ (Lit.int k a).wf = true := by
  obtain ⟨y, g⟩ := hf i f hi
  rw [ho, hc] at g
  obtain ⟨a, e, _, hw⟩ := DataW.trod_int ht g
  exact ⟨a, cell_one e, hw⟩
theorem field_any {fs : Array Field} {n : Nat} {cs : List Value} (hf : ∀ (i : Nat) (f : Field), fs[i]? = some f → ∃ y, DataW.trod enc P w base spare held n f.type ((cs.drop f.offset).take (P.cellsOf f.type)) = some y)
    (i : Nat) (f : Field) (hi : fs[i]? = some f) (j s : Nat) (t : TypeId) (ho : f.offset = j) (ht : f.type = t) (hc : P.cellsOf t = s) : ∃ y, DataW.trod enc P w base spare held n t ((cs.drop j).take s) = some y := by
  obtain ⟨y, g⟩ := hf i f hi
  rw [ho, ht, hc] at g
  exact ⟨y, g⟩
theorem field_bool {fs : Array Field} {n : Nat} {cs : List Value} (hf : ∀ (i : Nat) (f : Field), fs[i]? = some f → ∃ y, DataW.trod enc P w base spare held n f.type ((cs.drop f.offset).take (P.cellsOf f.type)) = some y)
    (i : Nat) (f : Field) (hi : fs[i]? = some f) (j : Nat) (ho : f.offset = j) (ht : P.underlying f.type = some .bool) (hc : P.cellsOf f.type = 1) : ∃ a, cs[j]? = some (.bool a) := by
  obtain ⟨y, g⟩ := hf i f hi
  rw [ho, hc] at g
  obtain ⟨a, e, _⟩ := DataW.trod_bool ht g
  exact ⟨a, cell_one e⟩
end

section
variable {H : Type} {enc : TypeId × Value → H} {w : World} {base : Nat} {spare : Nat → Bool} {held : Bool}
theorem open_msg {fuel : Nat} {cs : List Value} {x : DataW H × List MemPlace} (h : DataW.trod enc Tryd.prog w base spare held fuel 61 cs = some x) :
    ∃ n : MV, cs = n.cells.toList ∧ n.d.length ≤ maxLen ∧ Reads w (fun _ => True) n.A (n.d.map vb) ∧ (Lit.int .i64 n.ty).wf = true ∧ n.d.length ≤ n.c := by
  obtain ⟨hlen, n, hf⟩ := trod_fields Tryd.underlying61 h
  rw [show Tryd.prog.cellsOf 61 = 2 by kernel_rfl] at hlen
  obtain ⟨a0, e0, w0⟩ := field_int hf 0 _ rfl 0 rfl Tryd.underlying3 (by kernel_rfl)
  obtain ⟨y2, g2⟩ := field_any hf 1 _ rfl 1 1 59 rfl rfl (by kernel_rfl)
  obtain ⟨A, c, d, e2, hl, hm, _, hr⟩ := open_bytes Tryd.underlying59 Tryd.underlying5 (by kernel_rfl) g2
  have e2 := cell_one e2
  have hd := Nat.le_trans hl hm
  clear hf g2 h hm
  match cs, hlen with
  | [b0, b1], _ =>
    simp at e0 e2
    subst e0 e2
    exact ⟨⟨a0, A, c, d⟩, rfl, hd, hr, w0, hl⟩
end
end Go.Proofs.YteokhnkipandbaaDoor
