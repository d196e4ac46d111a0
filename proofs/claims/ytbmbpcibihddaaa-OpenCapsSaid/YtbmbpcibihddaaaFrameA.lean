/-
  Messages: known, fits, Check of the program: one contract each. No condition but that the table of least lengths reads as it is laid.
-/
import Derived.Test.YtbmbpcibihddaaaNoteA
namespace Go.Proofs.Ytbmbpcibihddaaa
open Go.ChangeShapes Go.WideShapes Go.ChangeAt Go.RowKit

/-- a message as a value: its type, where its body lies -/
structure MV where
  ty : Int
  A : Option Addr
  c : Nat
  d : List UInt8
def MV.cells (m : MV) : Array Value := #[.int .i64 m.ty, .slice m.A m.d.length m.c]
def MV.val (m : MV) : Value := .agg m.cells

/-- a type's least length with its head; 0: there is no such type -/
def leastZ (k : Int) : Int := if k = 1 then 29 else if k = 2 then 23 else if k = 3 then 21 else if k = 4 then 19 else 0
def fknownB (c : Int) : Bool := decide (1 ≤ c) && decide (c ≤ 4)
def fitsF (k n : Int) : Bool := decide (leastZ k ≤ n) && decide (n ≤ 4096) && (decide (k ≠ 4) || decide (n = 19))
/-- may a message be? -/
def MV.ok (m : MV) : Bool := fknownB m.ty && fitsF m.ty (19 + m.d.length)
def MV.err (m : MV) : Int := if m.ok then 0 else 30
theorem MV.err_ok {m : MV} (h : m.ok = true) : m.err = 0 := if_pos h
theorem MV.err_no {m : MV} (h : m.ok = false) : m.err = 30 := if_neg (by simp [h])

end Go.Proofs.Ytbmbpcibihddaaa
