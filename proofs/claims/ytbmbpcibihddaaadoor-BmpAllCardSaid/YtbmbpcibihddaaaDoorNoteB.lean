/-
  Notes: Get, the program's and the document's. No condition but that bytes read as data.
-/
import Derived.Test.YtbmbpcibihddaaaDoorNoteA
import Derived.Deep.RegionHeld3
import Derived.Deep.RegionWith
namespace Go.Proofs.YtbmbpcibihddaaaDoor
open Go.ChangeShapes Go.WideShapes Go.ChangeAt Go.RowKit

/-- is a body a note's? -/
def bodyOk (l : List UInt8) : Bool := decide (2 ≤ l.length) && decide (l.length ≤ 4077) && knownB (l.headD 0).toNat
def noteNone : Array Value := #[.int .i64 0, .int .i64 0, .slice none 0 0]
theorem note_one (a b : Int) (A : Option Addr) (n c : Nat) : (#[Value.int .i64 a, .int .i64 b, .slice A n c] : Array Value).all (·.oneCell') = true := by simp [Value.oneCell']

theorem body_form {l : List UInt8} (h : bodyOk l = true) : ∃ x y d, l = x :: y :: d ∧ knownB x.toNat = true ∧ d.length ≤ 4075 := by
  match l, h with
  | [], h => simp [bodyOk] at h
  | [_], h => simp [bodyOk] at h
  | x :: y :: d, h =>
    simp [bodyOk] at h
    exact ⟨x, y, d, rfl, h.2, by omega⟩

theorem step_store_blk {P : Program} {ops : Array Oper} {o : Oper} {a : Act} {w : World} {K : Act → World → Prop} {Q : Exit → Act → World → Prop} {E : Prop} (hgd : o.guard = none) (ty : TypeId) (x y : Operand) (ho : o.op = .store ty x y)
    (g : Nat) (cells : Array Value) (hx : a.eval x = .pointer (some ⟨g, 0, none⟩)) (hy : a.eval y = .agg cells) (t : TypeId) (old : Array Value) (hb : Blk w g t old) (hi : (P.info? ty).map (·.size) = some cells.size)
    (hold : old.size = cells.size) (h1 : cells.all (·.oneCell') = true) (h : K (a.put o.dst undef) (w.setRow g cells)) :
    if Region.wanted o (yielded ops a.tmps) = true then Oper.wp P o a w K Q else E := by
  have hw : Region.wanted o (yielded ops a.tmps) = true := by simp [Region.wanted, hgd]
  rw [if_pos hw]
  exact wp_store_row ty x y ho g cells hx hy t old hb hi hold h1 h
theorem blk3 {w : World} {g : Nat} {t : TypeId} {a b c : Value} (h : Blk w g t #[a, b, c]) : w.cell? ⟨g, 0, none⟩ = some a ∧ w.cell? ⟨g, 1, none⟩ = some b ∧ w.cell? ⟨g, 2, none⟩ = some c ∧ w.frozen? ⟨g, 0, none⟩ = false ∧ w.frozen? ⟨g, 1, none⟩ = false ∧ w.frozen? ⟨g, 2, none⟩ = false :=
  ⟨by rw [h.cell 0]; rfl, by rw [h.cell 1]; rfl, by rw [h.cell 2]; rfl, h.frozen 0, h.frozen 1, h.frozen 2⟩
theorem set3 {w : World} {g : Nat} {t : TypeId} {a0 b0 c0 : Value} (h : Blk w g t #[a0, b0, c0]) (a b c : Value) : Blk (((w.setCell ⟨g, 0, none⟩ a).setCell ⟨g, 1, none⟩ b).setCell ⟨g, 2, none⟩ c) g t #[a, b, c] ∧ Only (· = g) w (((w.setCell ⟨g, 0, none⟩ a).setCell ⟨g, 1, none⟩ b).setCell ⟨g, 2, none⟩ c) := by
  refine ⟨?_, (((Only.refl (· = g) w).setCell (p := ⟨g, 0, none⟩) (fun _ => rfl) a).setCell (p := ⟨g, 1, none⟩) (fun _ => rfl) b).setCell (p := ⟨g, 2, none⟩) (fun _ => rfl) c⟩
  have := ((h.set_ 0 a).set_ 1 b).set_ 2 c
  simpa using this
end Go.Proofs.YtbmbpcibihddaaaDoor
