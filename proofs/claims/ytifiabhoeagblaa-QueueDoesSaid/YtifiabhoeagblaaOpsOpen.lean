/-
  What an argument of queue calls that reads as data gives a walk: rows of three cells. No program in sight. No condition.
-/
import Derived.Test.YtifiabhoeagblaaQueueDoes
import Derived.Test.YtifiabhoeagblaaOpen
namespace Go.Proofs.Ytifiabhoeagblaa
open Go.ChangeShapes Go.WideShapes Go.ChangeAt Go.RowKit

section
variable {H : Type} {enc : TypeId × Value → H} {P : Program} {w : World} {base : Nat} {spare : Nat → Bool} {held : Bool}
theorem trod_field {t : TypeId} {fs : Array Field} {fuel : Nat} {cs : List Value} {x : DataW H × List MemPlace} (ht : P.underlying t = some (.struct fs)) (h : DataW.trod enc P w base spare held fuel t cs = some x) :
    cs.length = P.cellsOf t ∧ ∃ n, ∀ (i : Nat) (f : Field), fs[i]? = some f → ∃ y, DataW.trod enc P w base spare held n f.type ((cs.drop f.offset).take (P.cellsOf f.type)) = some y := by
  obtain ⟨xs, n, _, _, hl, hlen, hf⟩ := DataW.trod_struct ht h
  refine ⟨hl, n, fun i f hi => ?_⟩
  have hx := hf i f hi
  have : i < xs.length := by
    rw [hlen]
    rcases Nat.lt_or_ge i fs.size with h | h
    · exact h
    · rw [Array.getElem?_eq_none h] at hi; cases hi
  rw [List.getElem?_eq_getElem this] at hx
  exact ⟨_, hx⟩

theorem open_ops {t e u : TypeId} {f0 f1 f2 : Field} {fuel : Nat} {cs : List Value} {x : DataW H × List MemPlace} (ht : P.underlying t = some (.slice e)) (he : P.underlying e = some (.struct #[f0, f1, f2])) (hsz : P.cellsOf e = 3)
    (o0 : f0.offset = 0) (o1 : f1.offset = 1) (o2 : f2.offset = 2) (t0 : P.underlying f0.type = some (.int .i64)) (t1 : P.underlying f1.type = some (.int .i64)) (t2 : P.underlying f2.type = some (.slice u)) (tu : P.underlying u = some (.int .u8))
    (c0 : P.cellsOf f0.type = 1) (c1 : P.cellsOf f1.type = 1) (c2 : P.cellsOf f2.type = 1) (cu : P.cellsOf u = 1)
    (h : DataW.trod enc P w base spare held fuel t cs = some x) :
    ∃ (A : Option Addr) (cap : Nat) (l : List OpR), cs = [.slice A l.length cap] ∧ l.length ≤ cap ∧ cap ≤ maxLen ∧ (A = none → cap = 0) ∧ Reads w (fun _ => True) A (l.flatMap OpR.cells) ∧ (∀ r ∈ l, Reads w (fun _ => True) r.A (r.b.map vb)) ∧ ∀ r ∈ l, r.b.length ≤ maxLen := by
  obtain ⟨A, cap, ys, hcs, hl, hm, hn, hr, hg⟩ := open_row (Y := OpR) OpR.cells (fun r => r.b.length ≤ maxLen ∧ Reads w (fun _ => True) r.A (r.b.map vb)) ht hsz (by omega)
    (fun n cs' x hx => by
      obtain ⟨hlen, m, hf⟩ := trod_field he hx
      rw [hsz] at hlen
      obtain ⟨y0, g0⟩ := hf 0 f0 rfl
      obtain ⟨y1, g1⟩ := hf 1 f1 rfl
      obtain ⟨y2, g2⟩ := hf 2 f2 rfl
      match cs', hlen with
      | [a, b, c], _ =>
        simp only [o0, o1, o2, c0, c1, c2, List.drop, List.take] at g0 g1 g2
        obtain ⟨k0, e0, _, _⟩ := DataW.trod_int t0 g0
        obtain ⟨k1, e1, _, _⟩ := DataW.trod_int t1 g1
        obtain ⟨A, cap, l, e2, hl, hm, _, hr⟩ := open_bytes t2 tu cu g2
        simp only [List.cons.injEq, and_true] at e0 e1 e2
        subst e0 e1 e2
        exact ⟨⟨k0, k1, A, cap, l⟩, rfl, by simpa using (by omega : l.length ≤ maxLen), hr⟩) h
  exact ⟨A, cap, ys, hcs, hl, hm, hn, hr, fun r hrl => (hg r hrl).1.2, fun r hrl => (hg r hrl).1.1⟩
end
end Go.Proofs.Ytifiabhoeagblaa
