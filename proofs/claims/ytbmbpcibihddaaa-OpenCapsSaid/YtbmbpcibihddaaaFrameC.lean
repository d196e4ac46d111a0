/-
  Heads: what any bytes are as a head. No condition but that bytes read as data and the table of least lengths as it is laid.
-/
import Derived.Test.YtbmbpcibihddaaaFrameB
namespace Go.Proofs.Ytbmbpcibihddaaa
open Go.ChangeShapes Go.WideShapes Go.ChangeAt Go.RowKit

/-- what bytes are as a head: a type, a length, or what is wrong -/
structure HR where
  k : Int
  n : Int
  code : Int
  sub : Int
  d : List UInt8
def headOf (m : List UInt8) (a b k : UInt8) : HR :=
  if badMark m then ⟨0, 0, 1, 1, []⟩
  else if fknownB k.toNat then
    if fitsF k.toNat (ofBe [a, b] : Nat) then ⟨k.toNat, (ofBe [a, b] : Nat), 0, 0, []⟩ else ⟨0, 0, 1, 2, [a, b]⟩
  else ⟨0, 0, 1, 3, [k]⟩
def headR (l : List UInt8) : HR := if l.length < 19 then ⟨0, 0, 0, 0, []⟩ else headOf (l.take 16) (l.getD 16 0) (l.getD 17 0) (l.getD 18 0)

/-- what a head's answer leaves -/
structure HeadPost (r : HR) (w : World) (v : Value) (w' : World) : Prop where
  own : w'.ownsRow w.heap.size 5 1 v r.d.length (r.d.map vb)
  bel : Below w.heap.size w w'
def HR.val (r : HR) (v : Value) : Value := .tuple #[.int .i64 r.k, .int .i64 r.n, .agg #[.int .i64 r.code, .int .i64 r.sub, v]]

theorem reads_of_blk {w : World} {g : Nat} {t : TypeId} {cs : Array Value} (h : Blk w g t cs) : Reads w (fun k => k = g) (some ⟨g, 0, none⟩) cs.toList :=
  .inr ⟨g, 0, rfl, rfl, h.lt, fun j u hj => by rw [h.cell]; simpa using hj⟩
/-- a head's own note behind 'wrong' -/
theorem head_note {w w1 w2 : World} {B : Nat} {code sub : Int} {A1 : Option Addr} {c1 : Nat} {d : List UInt8} (hb1 : Below w.heap.size w w1) (hM2 : Blk w2 w.heap.size 30 #[.int .i64 0, .int .i64 0, .slice none 0 0]) (hB : w.heap.size < B)
    (hown : w2.ownsRow B 5 1 (.slice A1 d.length c1) d.length (d.map vb)) (hb : Below w1.heap.size w1 w2) :
    Blk (w2.setRow w.heap.size #[.int .i64 code, .int .i64 sub, .slice A1 d.length c1]) w.heap.size 30 #[.int .i64 code, .int .i64 sub, .slice A1 d.length c1] ∧ HeadPost ⟨0, 0, code, sub, d⟩ w (.slice A1 d.length c1) (w2.setRow w.heap.size #[.int .i64 code, .int .i64 sub, .slice A1 d.length c1]) :=
  ⟨hM2.setRow_ _, own_mono (own_only hown (only_setRow w2 w.heap.size _) (fun k hk e => by have := (hown.lt k hk).1; omega)) (by omega), below_setRow (hb1.trans (hb.mono hb1.size)) (g := w.heap.size) (Nat.le_refl _) _⟩

section
variable (b0 off c L : Nat) (m : List UInt8) (a b k : UInt8) (F : Nat → Prop) (w : World) (hm : m.length = 16) (hb0 : b0 < w.heap.size) (hrm : Reads w F (some ⟨b0, off, none⟩) (m.map vb)) (hrab : Reads w F (some ⟨b0, off + 16, none⟩) ([a, b].map vb))
end

theorem getD_of {l : List UInt8} {i : Nat} (h : i < l.length) : l.getD i 0 = l[i] := by simp [List.getD, h]
end Go.Proofs.Ytbmbpcibihddaaa
