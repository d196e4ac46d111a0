/-
  Heads: ContainsFunc at the marks, wrong: one contract each. No condition but that bytes read as data.
-/
import Derived.Test.YtbmbpcibihddaaaFrameA
import Derived.Test.YtbmbpcibihddaaaNoteB
import Derived.Deep.RegionHeld3
import Derived.Deep.RegionWith
namespace Go.Proofs.Ytbmbpcibihddaaa
open Go.ChangeShapes Go.WideShapes Go.ChangeAt Go.RowKit

/-- is one of the marks wrong? -/
def badMark (l : List UInt8) : Bool := l.any fun x => decide (x ≠ 255)
theorem bad_at {l : List UInt8} {k : Nat} (hk : k < l.length) (h : l[k] ≠ 255) : badMark l = true := by
  unfold badMark
  rw [List.any_eq_true]
  exact ⟨l[k], List.getElem_mem hk, by simpa using h⟩
theorem bad_step {l : List UInt8} {k : Nat} (hk : k < l.length) (h : l[k] = 255) (hb : badMark (l.take k) = false) : badMark (l.take (k + 1)) = false := by
  rw [List.take_succ_eq_append_getElem hk]
  unfold badMark at hb ⊢
  rw [List.any_append, hb]
  simp [h]

theorem results_tmp_tmp_cell {P : Program} {fn : Func} {p q r : Tmp} {ty : TypeId} (h : fn.results = #[.tmp p, .tmp q, .cell r ty]) (tmps : Array Value) (w : World) (g : Nat) (t : TypeId) (cs : Array Value) (fr : Nat × Nat) (d : TypeDesc)
    (hp : tmps.getD r undef = .pointer (some ⟨g, 0, none⟩)) (hg : w.heap[g]? = some (.cells cs t fr))
    (hu : P.underlying ty = some d) (hd : (match d with | .struct _ | .array _ _ => true | _ => false) = true) (hi : (P.info? ty).map (·.size) = some cs.size) :
    (results fn tmps).run P w = .ok (.tuple #[tmps.getD p undef, tmps.getD q undef, .agg cs]) w := by
  have hp' : tmps[r]?.getD undef = .pointer (some ⟨g, 0, none⟩) := by simpa using hp
  simp [results, h, hp', asAddr, run_loadVar_row w g t ty cs fr d hg hu hd hi]

end Go.Proofs.Ytbmbpcibihddaaa
