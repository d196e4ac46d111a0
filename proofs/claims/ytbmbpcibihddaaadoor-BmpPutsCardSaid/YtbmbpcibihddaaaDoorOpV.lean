/-
  What routers say of themselves, as values and as bytes. No condition.
-/
import Derived.Test.YtbmbpcibihddaaaDoorFrameF
namespace Go.Proofs.YtbmbpcibihddaaaDoor
open Go.ChangeShapes Go.WideShapes Go.ChangeAt Go.RowKit

/-- what a router says, as a value -/
structure OV where
  asn : Int
  hold : Int
  id : Nat
  four : Bool
  paths : Int
def OV.cells (o : OV) : Array Value := #[.int .i64 o.asn, .int .i64 o.hold, .int .u32 o.id, .bool o.four, .int .i64 o.paths]
def OV.val (o : OV) : Value := .agg o.cells
def withinB (n a b : Int) : Bool := decide (a ≤ n) && decide (n ≤ b)
def OV.widest (o : OV) : Int := if o.four then 4294967295 else 65535
def OV.ok (o : OV) : Bool := withinB o.asn 1 o.widest && (decide (o.hold = 0) || withinB o.hold 3 65535) && decide (o.id ≠ 0) && withinB o.paths 0 3
def OV.err (o : OV) : Int := if o.ok then 0 else 40

/-- a capability: a code, how long, data -/
def capL (code : UInt8) (d : List UInt8) : List UInt8 := code :: UInt8.ofNat d.length :: d
/-- the capabilities -/
def OV.caps (o : OV) : List UInt8 := (capL 1 [0, 1, 0, 1] ++ if o.four then capL 65 (be 4 o.asn.toNat) else []) ++ if 0 < o.paths then capL 69 [0, 1, 1, UInt8.ofNat o.paths.toNat] else []
end Go.Proofs.YtbmbpcibihddaaaDoor
