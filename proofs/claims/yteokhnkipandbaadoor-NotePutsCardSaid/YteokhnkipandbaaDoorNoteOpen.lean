/-
  What a note that reads as data gives a walk, and what the tables' condition gives. No condition.
-/
import Derived.Test.YteokhnkipandbaaDoorOpen
import Derived.Test.YteokhnkipandbaaDoorNoteL
import Derived.Test.YteokhnkipandbaaDoorRows
import Derived.LaidMore
import Derived.Stop.Joined
import Derived.Stop.LaidErr
import Derived.Lib.LaidTab
import Derived.MakeChecks
namespace Go.Proofs.YteokhnkipandbaaDoor
open Go.ChangeShapes Go.WideShapes Go.ChangeAt Go.RowKit

section
variable {H : Type} {enc : TypeId × Value → H} {P : Program} {w : World} {base : Nat} {spare : Nat → Bool} {held : Bool}
theorem trod_fields {t : TypeId} {fs : Array Field} {fuel : Nat} {cs : List Value} {x : DataW H × List MemPlace} (ht : P.underlying t = some (.struct fs)) (h : DataW.trod enc P w base spare held fuel t cs = some x) :
    cs.length = P.cellsOf t ∧ ∃ n, ∀ (i : Nat) (f : Field), fs[i]? = some f → ∃ y, DataW.trod enc P w base spare held n f.type ((cs.drop f.offset).take (P.cellsOf f.type)) = some y := by
  obtain ⟨xs, n, _, _, hl, hlen, hf⟩ := DataW.trod_struct ht h
  refine ⟨hl, n, fun i f hi => ?_⟩
  have hx := hf i f hi
  have : i < xs.length := by
    rw [hlen]
    rcases Nat.lt_or_ge i fs.size with h | h
    · exact h
    · rw [Array.getElem?_eq_none h] at hi; cases hi
  rw [List.getElem?_eq_getElem this] at hx
  exact ⟨_, hx⟩
theorem i64_wf {n : Int} (h : (Lit.int .i64 n).wf = true) : -9223372036854775808 ≤ n ∧ n ≤ 9223372036854775807 := by
  simpa [Lit.wf, IntKind.min, IntKind.max, IntKind.signed, IntKind.bits] using h
theorem cell_one {cs : List Value} {j : Nat} {v : Value} (h : (cs.drop j).take 1 = [v]) : cs[j]? = some v := by
  have : ((cs.drop j).take 1)[0]? = some v := by rw [h]; rfl
  simpa [List.getElem?_take, List.getElem?_drop] using this
theorem field_int {k : IntKind} {fs : Array Field} {n : Nat} {cs : List Value} (hf : ∀ (i : Nat) (f : Field), fs[i]? = some f → ∃ y, DataW.trod enc P w base spare held n f.type ((cs.drop f.offset).take (P.cellsOf f.type)) = some y)
    (i : Nat) (f : Field) (hi : fs[i]? = some f) (j : Nat) (ho : f.offset = j) (ht : P.underlying f.type = some (.int k)) (hc : P.cellsOf f.type = 1) : ∃ a, cs[j]? = some (.int k a) ∧ (Lit.int k a).wf = true := by
  obtain ⟨y, g⟩ := hf i f hi
  rw [ho, hc] at g
  obtain ⟨a, e, _, hw⟩ := DataW.trod_int ht g
  exact ⟨a, cell_one e, hw⟩
theorem field_any {fs : Array Field} {n : Nat} {cs : List Value} (hf : ∀ (i : Nat) (f : Field), fs[i]? = some f → ∃ y, DataW.trod enc P w base spare held n f.type ((cs.drop f.offset).take (P.cellsOf f.type)) = some y)
    (i : Nat) (f : Field) (hi : fs[i]? = some f) (j s : Nat) (t : TypeId) (ho : f.offset = j) (ht : f.type = t) (hc : P.cellsOf t = s) : ∃ y, DataW.trod enc P w base spare held n t ((cs.drop j).take s) = some y := by
  obtain ⟨y, g⟩ := hf i f hi
  rw [ho, ht, hc] at g
  exact ⟨y, g⟩
theorem field_bool {fs : Array Field} {n : Nat} {cs : List Value} (hf : ∀ (i : Nat) (f : Field), fs[i]? = some f → ∃ y, DataW.trod enc P w base spare held n f.type ((cs.drop f.offset).take (P.cellsOf f.type)) = some y)
    (i : Nat) (f : Field) (hi : fs[i]? = some f) (j : Nat) (ho : f.offset = j) (ht : P.underlying f.type = some .bool) (hc : P.cellsOf f.type = 1) : ∃ a, cs[j]? = some (.bool a) := by
  obtain ⟨y, g⟩ := hf i f hi
  rw [ho, hc] at g
  obtain ⟨a, e, _⟩ := DataW.trod_bool ht g
  exact ⟨a, cell_one e⟩
end

section
variable {H : Type} {enc : TypeId × Value → H} {w : World} {base : Nat} {spare : Nat → Bool} {held : Bool}
theorem open_note {fuel : Nat} {cs : List Value} {x : DataW H × List MemPlace} (h : DataW.trod enc Tryd.prog w base spare held fuel 68 cs = some x) :
    ∃ n : NV, cs = n.cells.toList ∧ n.d.length ≤ maxLen ∧ Reads w (fun _ => True) n.A (n.d.map vb) ∧ (Lit.int .i64 n.code).wf = true ∧ (Lit.int .i64 n.sub).wf = true ∧ n.d.length ≤ n.c := by
  obtain ⟨hlen, n, hf⟩ := trod_fields Tryd.underlying68 h
  rw [show Tryd.prog.cellsOf 68 = 3 by kernel_rfl] at hlen
  obtain ⟨a0, e0, w0⟩ := field_int hf 0 _ rfl 0 rfl Tryd.underlying3 (by kernel_rfl)
  obtain ⟨a1, e1, w1⟩ := field_int hf 1 _ rfl 1 rfl Tryd.underlying3 (by kernel_rfl)
  obtain ⟨y2, g2⟩ := field_any hf 2 _ rfl 2 1 59 rfl rfl (by kernel_rfl)
  obtain ⟨A, c, d, e2, hl, hm, _, hr⟩ := open_bytes Tryd.underlying59 Tryd.underlying5 (by kernel_rfl) g2
  have e2 := cell_one e2
  have hd := Nat.le_trans hl hm
  clear hf g2 h hm
  match cs, hlen with
  | [b0, b1, b2], _ =>
    simp at e0 e1 e2
    subst e0 e1 e2
    exact ⟨⟨a0, a1, A, c, d⟩, rfl, hd, hr, w0, w1, hl⟩
end

/-- an array of strings that is listed: what a walk reads at an index -/
theorem strTab_of_head {P : Program} {W : World} {name : String} {ss : List (List UInt8)} {rest : List (String × DataW Unit)} {g : Nat} {t e : TypeId} {n : Nat}
    (hg : P.globalNamed name = some g) (hty : (P.globals[g]?).map (·.type) = some t) (ht : P.underlying t = some (.array n e)) (he : P.underlying e = some .string) (hce : P.cellsOf e = 1)
    (h : laidMet P ((name, .agg (ss.map fun s => .lit (.string s))) :: rest) W) : ∀ (i : Nat) (s : List UInt8), ss[i]? = some s → W.cell? ⟨g, i, none⟩ = some (.string (str s)) := by
  intro i s hs
  obtain ⟨ps, ⟨g', t', cs, fuel, p, q, hg', ht', hvar, hd, _, _⟩, _⟩ := h
  obtain rfl := Option.some.inj (hg.symm.trans hg')
  obtain rfl := Option.some.inj (hty.symm.trans ht')
  obtain ⟨xs, m, _, hx, _, hxl, hel⟩ := DataW.trod_array ht hd
  have hmap : xs.map (·.1) = ss.map fun s => (DataW.lit (.string s) : DataW Unit) := by
    have := congrArg Prod.fst hx
    simpa using this.symm
  have hi : i < n := by
    have h1 := congrArg List.length hmap
    have h2 : i < ss.length := by
      rcases Nat.lt_or_ge i ss.length with h | h
      · exact h
      · rw [List.getElem?_eq_none h] at hs; cases hs
    simp at h1
    omega
  have hy := hel i hi
  rw [List.getElem?_eq_getElem (by omega)] at hy
  rw [hce] at hy
  obtain ⟨s0, e1, e2, _⟩ := DataW.trod_string he hy
  have h3 : (xs.map (·.1))[i]? = some (DataW.lit (.string s0.data.toList)) := by
    rw [List.getElem?_map, List.getElem?_eq_getElem (by omega), e2]
    rfl
  rw [hmap, List.getElem?_map, hs] at h3
  simp at h3
  have h4 : str s = s0 := by
    subst h3
    rfl
  have h5 := World.var?_cell hg hvar i
  rw [h5, h4]
  have h6 := congrArg (·[0]?) e1
  simpa [List.getElem?_take, List.getElem?_drop] using h6

theorem laid_plain (W : World) {l : List (String × DataW Unit)} (h : laidMetH Tryd.prog l W) (hp : (l.all fun x => x.2.handleName?.isNone) = true) : laidMet Tryd.prog l W := by
  rw [MakeChecks.laidMetH_plain _ _ _ hp] at h
  exact h
theorem names_cell (W : World) (h : laidMetH Tryd.prog [("math/bits.deBruijn32tab", Rows.laid_math_bits_deBruijn32tab), ("math/bits.deBruijn64tab", Rows.laid_math_bits_deBruijn64tab), ("internal/strconv.uint64pow10", Rows.laid_internal_strconv_uint64pow10), ("bypath/note.names", Rows.laid_bypath_note_names)] W) :
    ∀ (i : Nat) (s : List UInt8), [[], [104, 101, 97, 100], [111, 112, 101, 110], [117, 112, 100, 97, 116, 101], [104, 111, 108, 100], [115, 116, 97, 116, 101], [99, 101, 97, 115, 101]][i]? = some s → W.cell? ⟨0, i, none⟩ = some (.string (str s)) :=
  strTab_of_head (P := Tryd.prog) (name := "bypath/note.names") (g := 0) (by kernel_rfl) (by kernel_rfl) Tryd.underlying165 Tryd.underlying9 (by kernel_rfl) ((laid_plain W h (by kernel_rfl)).tail.tail.tail)
end Go.Proofs.YteokhnkipandbaaDoor
