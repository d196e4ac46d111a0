/-
  What settings and inputs that read as data give a walk: their cells, one by one. No condition.
-/
import Derived.Test.YtifiabhoeagblaaConfC
import Derived.Test.YtifiabhoeagblaaOpen
namespace Go.Proofs.Ytifiabhoeagblaa
open Go.ChangeShapes Go.WideShapes Go.ChangeAt Go.RowKit

section
variable {H : Type} {enc : TypeId × Value → H} {P : Program} {w : World} {base : Nat} {spare : Nat → Bool} {held : Bool}
theorem trod_fields {t : TypeId} {fs : Array Field} {fuel : Nat} {cs : List Value} {x : DataW H × List MemPlace} (ht : P.underlying t = some (.struct fs)) (h : DataW.trod enc P w base spare held fuel t cs = some x) :
    cs.length = P.cellsOf t ∧ ∃ n, ∀ (i : Nat) (f : Field), fs[i]? = some f → ∃ y, DataW.trod enc P w base spare held n f.type ((cs.drop f.offset).take (P.cellsOf f.type)) = some y := by
  obtain ⟨xs, n, _, _, hl, hlen, hf⟩ := DataW.trod_struct ht h
  refine ⟨hl, n, fun i f hi => ?_⟩
  have hx := hf i f hi
  have : i < xs.length := by
    rw [hlen]
    rcases Nat.lt_or_ge i fs.size with h | h
    · exact h
    · rw [Array.getElem?_eq_none h] at hi; cases hi
  rw [List.getElem?_eq_getElem this] at hx
  exact ⟨_, hx⟩
theorem i64_hi {n : Int} (h : (Lit.int .i64 n).wf = true) : n ≤ 9223372036854775807 := by
  have hx : -9223372036854775808 ≤ n ∧ n ≤ 9223372036854775807 := by simpa [Lit.wf, IntKind.min, IntKind.max, IntKind.signed, IntKind.bits] using h
  exact hx.2
theorem cell_one {cs : List Value} {j : Nat} {v : Value} (h : (cs.drop j).take 1 = [v]) : cs[j]? = some v := by
  have : ((cs.drop j).take 1)[0]? = some v := by rw [h]; rfl
  simpa [List.getElem?_take, List.getElem?_drop] using this
theorem field_int {k : IntKind} {fs : Array Field} {n : Nat} {cs : List Value} (hf : ∀ (i : Nat) (f : Field), fs[i]? = some f → ∃ y, DataW.trod enc P w base spare held n f.type ((cs.drop f.offset).take (P.cellsOf f.type)) = some y)
    (i : Nat) (f : Field) (hi : fs[i]? = some f) (j : Nat) (ho : f.offset = j) (ht : P.underlying f.type = some (.int k)) (hc : P.cellsOf f.type = 1) : ∃ a, cs[j]? = some (.int k a) := by
  obtain ⟨y, g⟩ := hf i f hi
  rw [ho, hc] at g
  obtain ⟨a, e, _, _⟩ := DataW.trod_int ht g
  exact ⟨a, cell_one e⟩
theorem field_any {fs : Array Field} {n : Nat} {cs : List Value} (hf : ∀ (i : Nat) (f : Field), fs[i]? = some f → ∃ y, DataW.trod enc P w base spare held n f.type ((cs.drop f.offset).take (P.cellsOf f.type)) = some y)
    (i : Nat) (f : Field) (hi : fs[i]? = some f) (j s : Nat) (t : TypeId) (ho : f.offset = j) (ht : f.type = t) (hc : P.cellsOf t = s) : ∃ y, DataW.trod enc P w base spare held n t ((cs.drop j).take s) = some y := by
  obtain ⟨y, g⟩ := hf i f hi
  rw [ho, ht, hc] at g
  exact ⟨y, g⟩
theorem field_bool {fs : Array Field} {n : Nat} {cs : List Value} (hf : ∀ (i : Nat) (f : Field), fs[i]? = some f → ∃ y, DataW.trod enc P w base spare held n f.type ((cs.drop f.offset).take (P.cellsOf f.type)) = some y)
    (i : Nat) (f : Field) (hi : fs[i]? = some f) (j : Nat) (ho : f.offset = j) (ht : P.underlying f.type = some .bool) (hc : P.cellsOf f.type = 1) : ∃ a, cs[j]? = some (.bool a) := by
  obtain ⟨y, g⟩ := hf i f hi
  rw [ho, hc] at g
  obtain ⟨a, e, _⟩ := DataW.trod_bool ht g
  exact ⟨a, cell_one e⟩
end

section
variable {H : Type} {enc : TypeId × Value → H} {w : World} {base : Nat} {spare : Nat → Bool} {held : Bool}
theorem open_iface {fuel : Nat} {cs : List Value} {x : DataW H × List MemPlace} (h : DataW.trod enc Try.prog w base spare held fuel 80 cs = some x) : ∃ y : IfR, cs = y.cells ∧ True := by
  obtain ⟨hlen, n, hf⟩ := trod_fields Try.underlying80 h
  rw [show Try.prog.cellsOf 80 = 5 by kernel_rfl] at hlen
  obtain ⟨a0, e0⟩ := field_int hf 0 _ rfl 0 rfl Try.underlying3 (by kernel_rfl)
  obtain ⟨a1, e1⟩ := field_int hf 1 _ rfl 1 rfl Try.underlying3 (by kernel_rfl)
  obtain ⟨a4, e4⟩ := field_int hf 3 _ rfl 4 rfl Try.underlying3 (by kernel_rfl)
  obtain ⟨y, g⟩ := field_any hf 2 _ rfl 2 2 78 rfl rfl (by kernel_rfl)
  obtain ⟨hlen2, m, hg⟩ := trod_fields Try.underlying78 g
  obtain ⟨a2, e2⟩ := field_int hg 0 _ rfl 0 rfl Try.underlying34 (by kernel_rfl)
  obtain ⟨a3, e3⟩ := field_int hg 1 _ rfl 1 rfl Try.underlying3 (by kernel_rfl)
  match cs, hlen with
  | [b0, b1, b2, b3, b4], _ =>
    simp at e0 e1 e2 e3 e4
    subst e0 e1 e2 e3 e4
    exact ⟨⟨a0, a1, a2, a3, a4⟩, rfl, trivial⟩
theorem open_ifaces {fuel : Nat} {cs : List Value} {x : DataW H × List MemPlace} (h : DataW.trod enc Try.prog w base spare held fuel 35 cs = some x) :
    ∃ (A : Option Addr) (cap : Nat) (l : List IfR), cs = [.slice A l.length cap] ∧ l.length ≤ maxLen ∧ Reads w (fun _ => True) A (l.flatMap IfR.cells) := by
  obtain ⟨A, cap, ys, hcs, hl, hm, hn, hr, _⟩ := open_row (sz := 5) (Y := IfR) IfR.cells (fun _ => True) Try.underlying35 (by kernel_rfl) (by omega) (fun n cs' x hx => open_iface hx) h
  exact ⟨A, cap, ys, hcs, by omega, hr⟩
theorem stamps_flat (l : List (Int × Bool)) : stampCells l = l.flatMap fun s => [.int .i64 s.1, .bool s.2] := by
  induction l with
  | nil => rfl
  | cons s r ih => simp [stampCells, ih]
theorem open_stamps {fuel : Nat} {cs : List Value} {x : DataW H × List MemPlace} (h : DataW.trod enc Try.prog w base spare held fuel 39 cs = some x) :
    ∃ (A : Option Addr) (cap : Nat) (l : List (Int × Bool)), cs = [.slice A l.length cap] ∧ l.length ≤ maxLen ∧ Reads w (fun _ => True) A (stampCells l) := by
  obtain ⟨A, cap, ys, hcs, hl, hm, hn, hr, _⟩ := open_row (sz := 2) (Y := Int × Bool) (fun s => [.int .i64 s.1, .bool s.2]) (fun _ => True) Try.underlying39 (by kernel_rfl) (by omega)
    (fun n cs' x hx => by
      obtain ⟨hlen, n, hf⟩ := trod_fields Try.underlying46 hx
      rw [show Try.prog.cellsOf 46 = 2 by kernel_rfl] at hlen
      obtain ⟨a0, e0⟩ := field_int hf 0 _ rfl 0 rfl Try.underlying3 (by kernel_rfl)
      obtain ⟨a1, e1⟩ := field_bool hf 1 _ rfl 1 rfl Try.underlying4 (by kernel_rfl)
      match cs', hlen with
      | [b0, b1], _ =>
        simp at e0 e1
        subst e0 e1
        exact ⟨(a0, a1), rfl, trivial⟩) h
  exact ⟨A, cap, ys, hcs, by omega, by rw [stamps_flat]; exact hr⟩

theorem open_conf {fuel : Nat} {cs : List Value} {x : DataW H × List MemPlace} (h : DataW.trod enc Try.prog w base spare held fuel 38 cs = some x) :
    ∃ (AS ID H R routers counts carries high low moves cycle stale warm expire pref longer routes queue : Int) (A AD : Option Addr) (c cd : Nat) (l : List IfR) (deny : List Int), cs = [.int .i64 AS, .int .u32 ID, .int .i64 H, .int .i64 R, .int .i64 routers, .int .i64 counts, .int .i64 carries, .slice A l.length c, .int .i64 high, .int .i64 low, .int .i64 moves, .int .i64 cycle, .int .i64 stale, .int .i64 warm, .int .i64 expire, .int .i64 pref, .int .i64 longer, .slice AD deny.length cd, .int .i64 routes, .int .i64 queue] ∧ l.length ≤ maxLen ∧ deny.length ≤ maxLen ∧ Reads w (fun _ => True) A (l.flatMap IfR.cells) ∧ Reads w (fun _ => True) AD (deny.map (Value.int .i64)) := by
  obtain ⟨hlen, n, hf⟩ := trod_fields Try.underlying38 h
  rw [show Try.prog.cellsOf 38 = 20 by kernel_rfl] at hlen
  obtain ⟨AS, e0⟩ := field_int hf 0 _ rfl 0 rfl Try.underlying3 (by kernel_rfl)
  obtain ⟨ID, e1⟩ := field_int hf 1 _ rfl 1 rfl Try.underlying34 (by kernel_rfl)
  obtain ⟨H, e2⟩ := field_int hf 2 _ rfl 2 rfl Try.underlying3 (by kernel_rfl)
  obtain ⟨R, e3⟩ := field_int hf 3 _ rfl 3 rfl Try.underlying3 (by kernel_rfl)
  obtain ⟨routers, e4⟩ := field_int hf 4 _ rfl 4 rfl Try.underlying3 (by kernel_rfl)
  obtain ⟨counts, e5⟩ := field_int hf 5 _ rfl 5 rfl Try.underlying3 (by kernel_rfl)
  obtain ⟨carries, e6⟩ := field_int hf 6 _ rfl 6 rfl Try.underlying3 (by kernel_rfl)
  obtain ⟨high, e8⟩ := field_int hf 8 _ rfl 8 rfl Try.underlying3 (by kernel_rfl)
  obtain ⟨low, e9⟩ := field_int hf 9 _ rfl 9 rfl Try.underlying3 (by kernel_rfl)
  obtain ⟨moves, e10⟩ := field_int hf 10 _ rfl 10 rfl Try.underlying3 (by kernel_rfl)
  obtain ⟨cycle, e11⟩ := field_int hf 11 _ rfl 11 rfl Try.underlying3 (by kernel_rfl)
  obtain ⟨stale, e12⟩ := field_int hf 12 _ rfl 12 rfl Try.underlying3 (by kernel_rfl)
  obtain ⟨warm, e13⟩ := field_int hf 13 _ rfl 13 rfl Try.underlying3 (by kernel_rfl)
  obtain ⟨expire, e14⟩ := field_int hf 14 _ rfl 14 rfl Try.underlying3 (by kernel_rfl)
  obtain ⟨pref, e15⟩ := field_int hf 15 _ rfl 15 rfl Try.underlying3 (by kernel_rfl)
  obtain ⟨longer, e16⟩ := field_int hf 16 _ rfl 16 rfl Try.underlying3 (by kernel_rfl)
  obtain ⟨routes, e18⟩ := field_int hf 18 _ rfl 18 rfl Try.underlying3 (by kernel_rfl)
  obtain ⟨queue, e19⟩ := field_int hf 19 _ rfl 19 rfl Try.underlying3 (by kernel_rfl)
  obtain ⟨y7, g7⟩ := field_any hf 7 _ rfl 7 1 35 rfl rfl (by kernel_rfl)
  obtain ⟨A, c, l, e7, hl, hr⟩ := open_ifaces g7
  obtain ⟨y17, g17⟩ := field_any hf 17 _ rfl 17 1 36 rfl rfl (by kernel_rfl)
  obtain ⟨AD, cd, deny, e17, hdl, hdm, hdn, hd, _⟩ := open_introw Try.underlying36 Try.underlying3 (by kernel_rfl) g17
  have e7 := cell_one e7
  have e17 := cell_one e17
  clear hf g7 g17 h
  match cs, hlen with
  | [b0, b1, b2, b3, b4, b5, b6, b7, b8, b9, b10, b11, b12, b13, b14, b15, b16, b17, b18, b19], _ =>
    simp at e0 e1 e2 e3 e4 e5 e6 e7 e8 e9 e10 e11 e12 e13 e14 e15 e16 e17 e18 e19
    subst e0 e1 e2 e3 e4 e5 e6 e7 e8 e9 e10 e11 e12 e13 e14 e15 e16 e17 e18 e19
    exact ⟨AS, ID, H, R, routers, counts, carries, high, low, moves, cycle, stale, warm, expire, pref, longer, routes, queue, A, AD, c, cd, l, deny, rfl, hl, by omega, hr, hd⟩

theorem open_inputs {fuel : Nat} {cs : List Value} {x : DataW H × List MemPlace} (h : DataW.trod enc Try.prog w base spare held fuel 41 cs = some x) :
    ∃ (A0 A1 A2 : Option Addr) (k0 k1 k2 : Nat) (up : List Bool) (cts ks : List (Int × Bool)) (refused : Int), cs = [.slice A0 up.length k0, .slice A1 cts.length k1, .slice A2 ks.length k2, .int .i64 refused] ∧
      up.length ≤ maxLen ∧ cts.length ≤ maxLen ∧ ks.length ≤ maxLen ∧ Reads w (fun _ => True) A0 (up.map Value.bool) ∧ Reads w (fun _ => True) A1 (stampCells cts) ∧ Reads w (fun _ => True) A2 (stampCells ks) := by
  obtain ⟨hlen, n, hf⟩ := trod_fields Try.underlying41 h
  rw [show Try.prog.cellsOf 41 = 4 by kernel_rfl] at hlen
  obtain ⟨refused, e3⟩ := field_int hf 3 _ rfl 3 rfl Try.underlying3 (by kernel_rfl)
  obtain ⟨y0, g0⟩ := field_any hf 0 _ rfl 0 1 22 rfl rfl (by kernel_rfl)
  obtain ⟨A0, k0, up, e0, hl0, hm0, _, r0⟩ := open_bools Try.underlying22 Try.underlying4 (by kernel_rfl) g0
  obtain ⟨y1, g1⟩ := field_any hf 1 _ rfl 1 1 39 rfl rfl (by kernel_rfl)
  obtain ⟨A1, k1, cts, e1, hl1, r1⟩ := open_stamps g1
  obtain ⟨y2, g2⟩ := field_any hf 2 _ rfl 2 1 39 rfl rfl (by kernel_rfl)
  obtain ⟨A2, k2, ks, e2, hl2, r2⟩ := open_stamps g2
  have e0 := cell_one e0
  have e1 := cell_one e1
  have e2 := cell_one e2
  clear hf g0 g1 g2 h
  match cs, hlen with
  | [b0, b1, b2, b3], _ =>
    simp at e0 e1 e2 e3
    subst e0 e1 e2 e3
    exact ⟨A0, A1, A2, k0, k1, k2, up, cts, ks, refused, rfl, by omega, hl1, hl2, r0, r1, r2⟩
end
end Go.Proofs.Ytifiabhoeagblaa
