/-
  Notes: known, Check, Put, Get, Same, and the document's: one contract each. No condition but that bytes read as data.
-/
import Derived.Test.YtbmbpcibihddaaaDoorSlices
namespace Go.Proofs.YtbmbpcibihddaaaDoor
open Go.ChangeShapes Go.WideShapes Go.ChangeAt Go.RowKit

theorem results_cell_tmp {P : Program} {fn : Func} {p q : Tmp} {ty : TypeId} (h : fn.results = #[.cell p ty, .tmp q]) (tmps : Array Value) (w : World) (g : Nat) (t : TypeId) (cs : Array Value) (fr : Nat × Nat) (d : TypeDesc)
    (hp : tmps.getD p undef = .pointer (some ⟨g, 0, none⟩)) (hg : w.heap[g]? = some (.cells cs t fr))
    (hu : P.underlying ty = some d) (hd : (match d with | .struct _ | .array _ _ => true | _ => false) = true) (hi : (P.info? ty).map (·.size) = some cs.size) :
    (results fn tmps).run P w = .ok (.tuple #[.agg cs, tmps.getD q undef]) w := by
  have hp' : tmps[p]?.getD undef = .pointer (some ⟨g, 0, none⟩) := by simpa using hp
  simp [results, h, hp', asAddr, run_loadVar_row w g t ty cs fr d hg hu hd hi]

theorem wpList_store_blk {P : Program} {ops : Array Oper} {rest : List Oper} {o : Oper} {a : Act} {w : World} {Q : Exit → Act → World → Prop} (hg : Region.wanted o (yielded ops a.tmps) = true) (ty : TypeId) (x y : Operand) (ho : o.op = .store ty x y)
    (g : Nat) (cells : Array Value) (hx : a.eval x = .pointer (some ⟨g, 0, none⟩)) (hy : a.eval y = .agg cells) (t : TypeId) (old : Array Value) (hb : Blk w g t old) (hi : (P.info? ty).map (·.size) = some cells.size)
    (hold : old.size = cells.size) (h1 : cells.all (·.oneCell') = true) (h : wpList P ops Q rest (a.put o.dst undef) (w.setRow g cells)) : wpList P ops Q (o :: rest) a w :=
  wpList_wanted hg fun _ hK => wp_store_row ty x y ho g cells hx hy t old hb hi hold h1 (hK _ _ h)
theorem Blk.setRow_ {w : World} {g : Nat} {t : TypeId} {old : Array Value} (h : Blk w g t old) (cs : Array Value) : Blk (w.setRow g cs) g t cs := setRow_heap w g old cs t (0, 0) h
theorem Blk.farRow {w : World} {g k : Nat} {t : TypeId} {cs : Array Value} (h : Blk w g t cs) (hk : g ≠ k) (x : Array Value) : Blk (w.setRow k x) g t cs := (setRow_other w k g x hk).trans h
theorem only_setRow (w : World) (g : Nat) (cs : Array Value) : Only (· = g) w (w.setRow g cs) := ⟨rfl, rfl, rfl, by simp, fun k _ hk => setRow_other w g k cs hk⟩
theorem reads_two (w : World) (F : Nat → Prop) (g : Nat) (t : TypeId) (a b : UInt8) (h : Blk w g t #[vb a, vb b]) (hF : F g) : Reads w F (some ⟨g, 0, none⟩) ([a, b].map vb) := by
  refine .inr ⟨g, 0, rfl, hF, h.lt, fun j u hj => ?_⟩
  have := h.cell (0 + j)
  rw [this]
  simp at hj ⊢
  exact hj

/-- a note as a value: its code, its subcode, where its data lie -/
structure NV where
  code : Int
  sub : Int
  A : Option Addr
  c : Nat
  d : List UInt8
def NV.cells (n : NV) : Array Value := #[.int .i64 n.code, .int .i64 n.sub, .slice n.A n.d.length n.c]
def NV.val (n : NV) : Value := .agg n.cells

/-- is there such a code? -/
def knownB (c : Int) : Bool := decide (1 ≤ c) && decide (c ≤ 6)
/-- may a note be? -/
def noteOk (n : NV) : Bool := knownB n.code && decide (0 ≤ n.sub) && decide (n.sub ≤ 255) && decide (n.d.length ≤ 4075)
/-- what is wrong with it: nothing, or ErrNote -/
def noteE (n : NV) : Int := if noteOk n then 0 else 80
theorem noteE_ok {n : NV} (h : noteOk n = true) : noteE n = 0 := if_pos h
theorem noteE_no {n : NV} (h : noteOk n = false) : noteE n = 80 := if_neg (by simp [h])

/-- a note's body -/
def NV.body (n : NV) : List UInt8 := UInt8.ofNat n.code.toNat :: UInt8.ofNat n.sub.toNat :: n.d
theorem vb_ofInt {n : Int} (h0 : 0 ≤ n) (h1 : n ≤ 255) : vb (UInt8.ofNat n.toNat) = .int .u8 n := by
  unfold vb
  rw [UInt8.toNat_ofNat']
  congr 1
  omega
theorem msg_one (k : Int) (A : Option Addr) (n c : Nat) : (#[Value.int .i64 k, .slice A n c] : Array Value).all (·.oneCell') = true := by simp [Value.oneCell']
def msgNone : Array Value := #[.int .i64 0, .slice none 0 0]
end Go.Proofs.YtbmbpcibihddaaaDoor
