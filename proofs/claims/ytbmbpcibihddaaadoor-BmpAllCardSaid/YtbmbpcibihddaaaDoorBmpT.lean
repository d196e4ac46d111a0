/-
  'append(b, make([]byte, n)...)' onto a row of the call's own. No program in sight. No condition.
-/
import Derived.Test.YtbmbpcibihddaaaDoorBmpC
import Derived.Lib.AppendStr
import Derived.Lib.AppendZerosOnto
import Derived.Deep.DeepAppendWide
namespace Go.Proofs.YtbmbpcibihddaaaDoor
open Go.ChangeShapes Go.WideShapes Go.ChangeAt Go.RowKit

theorem zeroCells_str (k : Nat) : Builtin.zeroCells (Value.int .u8 0).cells k = (Lib.strCells (str (List.replicate k 0))).toArray := by
  apply Array.ext'
  simp [Lib.strCells, str, Builtin.zeroCells, Value.cells, Nat.mod_one]
  apply List.ext_getElem <;> simp
theorem run_zeros_as_str {P : Program} (w : World) (t tn u ty e : TypeId) (i : TypeInfo) (ht : P.underlying t = some (.slice e)) (htn : P.underlying tn = some (.int .i64)) (hu : P.underlying u = some .string) (hi : P.info? e = some i) (hz : i.zero = some (.int .u8 0))
    (hsize : i.size = 1) (hby : i.bytes = 1) (A : Option Addr) (n c k : Nat) (hk : 0 < k) (hb : n + k ≤ 140737488355328) :
    (Builtin.append_ #[t, tn] ty #[.slice A n c, .int .i64 k]).run P w = (Builtin.append_ #[t, u] ty #[.slice A n c, .string (str (List.replicate k 0))]).run P w := by
  have hss : (str (List.replicate k 0)).size = k := by simp [str, ByteArray.size]
  have hk' : k ≠ 0 := by omega
  have hw : IntKind.i64.wrap (k : Int) = k := by rw [IntKind.wrap_i64]; omega
  have hneg : ¬ ((k : Int) < 0) := by omega
  have h63' : ¬ (9223372036854775807 < ((n : Int) + (k : Int))) := by omega
  have hf : ∀ w, (Builtin.firstCells 1 k (.string (str (List.replicate k 0)))).run P w = .ok (Lib.strCells (str (List.replicate k 0))).toArray w := fun w => by
    have := Lib.run_firstCells_string (P := P) w 1 (str (List.replicate k 0))
    rwa [hss] at this
  by_cases hroom : n + k ≤ c
  · simp [Builtin.append_, run_underlying ht, run_underlying htn, run_underlying hu, sizeOf, typeInfo, zeroValue, hi, hz, hsize, hby, asInt, asIntOf, hw, hneg, Builtin.lenOf, hss, hroom, hk', hf, zeroCells_str]
    intro h
    omega
  · have h48' : ¬ (281474976710656 < Builtin.nextslicecap (n + k) c) := by
      have := growslice_fits_wide (bytes := 1) (show c < n + k by omega) (by omega)
      omega
    simp [Builtin.append_, run_underlying ht, run_underlying htn, run_underlying hu, sizeOf, typeInfo, zeroValue, hi, hz, hsize, hby, asInt, asIntOf, hw, hneg, Builtin.lenOf, hss, hroom, hk', hf, h63', h48', zeroCells_str]
    intro h
    omega
theorem strCells_vb (l : List UInt8) : Lib.strCells (str l) = l.map vb := by simp [Lib.strCells, str, vb]
/-- 'append(b, make([]byte, k)...)' in a region that draws -/
theorem step_append_zeros {P : Program} (w : World) {ops : Array Oper} {o : Oper} {a : Act} {K : Act → World → Prop} {Q : Exit → Act → World → Prop} {E : Prop} (hgd : o.guard = none) (s x : Operand) (t tn u : TypeId)
    (ho : o.op = .call { callee := .builtin .append, args := #[s, x], argTypes := #[t, tn] })
    (base : Nat) (e : TypeId) (i : TypeInfo) (ht : P.underlying t = some (.slice e)) (htn : P.underlying tn = some (.int .i64)) (hu : P.underlying u = some .string) (hi : P.info? e = some i) (hz : i.zero = some (.int .u8 0))
    (hsize : i.size = 1) (hby : i.bytes = 1)
    (A : Option Addr) (n c k : Nat) (xs : List Value) (hs : a.eval s = .slice A n c) (hown : w.ownsRow base e 1 (.slice A n c) n xs) (hx : a.eval x = .int .i64 k) (hk : 0 < k) (hbytes : n + k ≤ 100000000000000) (hbase : base ≤ w.heap.size)
    (h : ∀ v' w', w'.ownsRow base e 1 v' (n + k) (xs ++ (List.replicate k (0 : UInt8)).map vb) → w.grownBy w' (Value.slice A n c).ownBlock → K (a.put o.dst v') w') :
    if Region.wanted o (yielded ops a.tmps) = true then Oper.wp P o a w K Q else E := by
  have hw : Region.wanted o (yielded ops a.tmps) = true := by simp [Region.wanted, hgd]
  rw [if_pos hw]
  have hss : (str (List.replicate k 0)).size = k := by simp [str, ByteArray.size]
  obtain ⟨v', w', hr, h2, h3, _⟩ := Lib.run_append_own_string (P := P) w base t u o.type e i ht hu hi hz hsize hby _ n xs hown (str (List.replicate k 0)) (by rw [hss]; unfold maxLen; omega) (by rw [hss]; omega) hbase
  rw [← run_zeros_as_str w t tn u o.type e i ht htn hu hi hz hsize hby A n c k hk (by omega)] at hr
  rw [hss, strCells_vb] at h2
  unfold Oper.wp execOp
  simp only [ho, resolve, invoke, builtin, Sem.run_bind, Sem.run_pure, Result.andThen_ok, List.map_toArray, List.map_cons, List.map_nil, hs, hx, hr]
  exact h v' w' h2 h3
end Go.Proofs.YtbmbpcibihddaaaDoor
