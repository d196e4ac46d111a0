/-
  Rooms, wants, the library's table as they read, to what the walks ask of the world. No condition.
-/
import Derived.Test.YtpbghlobkdjpiaaDoorFlowL
import Derived.Test.YtpbghlobkdjpiaaDoorOpen
import Derived.Test.YtpbghlobkdjpiaaDoorRows
import Derived.LaidMore
import Derived.Stop.Joined
import Derived.Stop.LaidErr
import Derived.Lib.LaidTab
import Derived.MakeChecks
namespace Go.Proofs.YtpbghlobkdjpiaaDoor
open Go.ChangeShapes Go.WideShapes Go.ChangeAt Go.RowKit

theorem tabIs_of_second {P : Program} {W : World} {name : String} {k : IntKind} {zs : List Int} {y : String × DataW Unit} {rest : List (String × DataW Unit)} {g : Nat} {t e : TypeId} {n : Nat}
    (hg : P.globalNamed name = some g) (hty : (P.globals[g]?).map (·.type) = some t) (ht : P.underlying t = some (.array n e)) (he : P.underlying e = some (.int k)) (hce : P.cellsOf e = 1) (hct : P.cellsOf t = n)
    (h : laidMet P (y :: (name, Lib.tabData k zs) :: rest) W) : Lib.TabIs P W name k zs := by
  obtain ⟨ps, ⟨_, _, _, _, _, _, _, _, _, _, ⟨g', t', cs, fuel, p, q, hg', ht', hvar, hd, _, _⟩, _⟩, _⟩ := h
  obtain rfl := Option.some.inj (hg.symm.trans hg')
  obtain rfl := Option.some.inj (hty.symm.trans ht')
  unfold Lib.TabIs
  rw [hvar, ← Lib.cells_of_tab ht he hce hct hd]
def tzInts : List Int := [0, 1, 56, 2, 57, 49, 28, 3, 61, 58, 42, 50, 38, 29, 17, 4, 62, 47, 59, 36, 45, 43, 51, 22, 53, 39, 33, 30, 24, 18, 12, 5, 63, 55, 48, 27, 60, 41, 37, 16, 46, 35, 44, 21, 52, 32, 23, 11, 54, 26, 40, 15, 34, 20, 31, 10, 25, 14, 19, 9, 13, 8, 7, 6]
theorem flow_table (W : World) (h : laidMetH Tryd.prog [("math/bits.deBruijn32tab", Rows.laid_math_bits_deBruijn32tab), ("math/bits.deBruijn64tab", Rows.laid_math_bits_deBruijn64tab)] W) : TzAt W := by
  rw [MakeChecks.laidMetH_plain _ _ _ (by kernel_rfl)] at h
  have hT : Lib.TabIs Tryd.prog W "math/bits.deBruijn64tab" .u8 tzInts :=
    tabIs_of_second (P := Tryd.prog) (g := 1) (t := 78) (e := 5) (n := 64) (by kernel_rfl) (by kernel_rfl) Tryd.underlying78 Tryd.underlying5 (by kernel_rfl) (by kernel_rfl) h
  have hg : Tryd.prog.globalNamed "math/bits.deBruijn64tab" = some 1 := by kernel_rfl
  intro j hj
  have := hT.cell hg j hj
  rw [this]
  have e : tzInts = Lib.deBruijn64tab.map fun n : Nat => (n : Int) := by decide
  rw [e]
  simp [List.getD, List.getElem?_map, List.getElem?_eq_getElem hj]

section
variable {H : Type} {enc : TypeId × Value → H} {P : Program} {w : World} {base : Nat} {spare : Nat → Bool} {held : Bool}
theorem trod_fields {t : TypeId} {fs : Array Field} {fuel : Nat} {cs : List Value} {x : DataW H × List MemPlace} (ht : P.underlying t = some (.struct fs)) (h : DataW.trod enc P w base spare held fuel t cs = some x) :
    cs.length = P.cellsOf t ∧ ∃ n, ∀ (i : Nat) (f : Field), fs[i]? = some f → ∃ y, DataW.trod enc P w base spare held n f.type ((cs.drop f.offset).take (P.cellsOf f.type)) = some y := by
  obtain ⟨xs, n, _, _, hl, hlen, hf⟩ := DataW.trod_struct ht h
  refine ⟨hl, n, fun i f hi => ?_⟩
  have hx := hf i f hi
  have : i < xs.length := by
    rw [hlen]
    rcases Nat.lt_or_ge i fs.size with h | h
    · exact h
    · rw [Array.getElem?_eq_none h] at hi; cases hi
  rw [List.getElem?_eq_getElem this] at hx
  exact ⟨_, hx⟩
theorem i64_wf {n : Int} (h : (Lit.int .i64 n).wf = true) : -9223372036854775808 ≤ n ∧ n ≤ 9223372036854775807 := by
  simpa [Lit.wf, IntKind.min, IntKind.max, IntKind.signed, IntKind.bits] using h
theorem cell_one {cs : List Value} {j : Nat} {v : Value} (h : (cs.drop j).take 1 = [v]) : cs[j]? = some v := by
  have : ((cs.drop j).take 1)[0]? = some v := by rw [h]; rfl
  simpa [List.getElem?_take, List.getElem?_drop] using this
theorem field_int {k : IntKind} {fs : Array Field} {n : Nat} {cs : List Value} (hf : ∀ (i : Nat) (f : Field), fs[i]? = some f → ∃ y, DataW.trod enc P w base spare held n f.type ((cs.drop f.offset).take (P.cellsOf f.type)) = some y)
    (i : Nat) (f : Field) (hi : fs[i]? = some f) (j : Nat) (ho : f.offset = j) (ht : P.underlying f.type = some (.int k)) (hc : P.cellsOf f.type = 1) : ∃ a, cs[j]? = some (.int k a) ∧ (Lit.int k a).wf = true := by
  obtain ⟨y, g⟩ := hf i f hi
  rw [ho, hc] at g
  obtain ⟨a, e, _, hw⟩ := DataW.trod_int ht g
  exact ⟨a, cell_one e, hw⟩
theorem field_any {fs : Array Field} {n : Nat} {cs : List Value} (hf : ∀ (i : Nat) (f : Field), fs[i]? = some f → ∃ y, DataW.trod enc P w base spare held n f.type ((cs.drop f.offset).take (P.cellsOf f.type)) = some y)
    (i : Nat) (f : Field) (hi : fs[i]? = some f) (j s : Nat) (t : TypeId) (ho : f.offset = j) (ht : f.type = t) (hc : P.cellsOf t = s) : ∃ y, DataW.trod enc P w base spare held n t ((cs.drop j).take s) = some y := by
  obtain ⟨y, g⟩ := hf i f hi
  rw [ho, ht, hc] at g
  exact ⟨y, g⟩
theorem field_bool {fs : Array Field} {n : Nat} {cs : List Value} (hf : ∀ (i : Nat) (f : Field), fs[i]? = some f → ∃ y, DataW.trod enc P w base spare held n f.type ((cs.drop f.offset).take (P.cellsOf f.type)) = some y)
    (i : Nat) (f : Field) (hi : fs[i]? = some f) (j : Nat) (ho : f.offset = j) (ht : P.underlying f.type = some .bool) (hc : P.cellsOf f.type = 1) : ∃ a, cs[j]? = some (.bool a) := by
  obtain ⟨y, g⟩ := hf i f hi
  rw [ho, hc] at g
  obtain ⟨a, e, _⟩ := DataW.trod_bool ht g
  exact ⟨a, cell_one e⟩
end

section
variable {H : Type} {enc : TypeId × Value → H} {P : Program} {w : World} {base : Nat} {spare : Nat → Bool} {held : Bool}
def One (cs : List Value) : Prop := ∀ c ∈ cs, c.oneCell' = true
theorem field_slice {fs : Array Field} {n : Nat} {cs : List Value} (hf : ∀ (i : Nat) (f : Field), fs[i]? = some f → ∃ y, DataW.trod enc P w base spare held n f.type ((cs.drop f.offset).take (P.cellsOf f.type)) = some y)
    (i : Nat) (f : Field) (hi : fs[i]? = some f) (j : Nat) (ho : f.offset = j) {e : TypeId} (ht : P.underlying f.type = some (.slice e)) (hc : P.cellsOf f.type = 1) : ∃ A m c, cs[j]? = some (.slice A m c) := by
  obtain ⟨y, g⟩ := hf i f hi
  rw [ho, hc] at g
  rcases Go.Deep.open_slice ht g with ⟨e, _⟩ | ⟨a, m, c, _, _, _, _, e, _⟩
  · exact ⟨none, 0, 0, cell_one e⟩
  · exact ⟨some a, m, c, cell_one e⟩
end
section
variable {H : Type} {enc : TypeId × Value → H} {w : World} {base : Nat} {spare : Nat → Bool} {held : Bool}
theorem open_prefix {fuel : Nat} {cs : List Value} {x : DataW H × List MemPlace} (h : DataW.trod enc Tryd.prog w base spare held fuel 43 cs = some x) :
    ∃ a b, cs = [.int .u32 a, .int .i64 b] := by
  obtain ⟨hlen, n, hf⟩ := trod_fields Tryd.underlying43 h
  rw [show Tryd.prog.cellsOf 43 = 2 by kernel_rfl] at hlen
  obtain ⟨a0, e0, w0⟩ := field_int hf 0 _ rfl 0 rfl Tryd.underlying41 (by kernel_rfl)
  obtain ⟨a1, e1, w1⟩ := field_int hf 1 _ rfl 1 rfl Tryd.underlying3 (by kernel_rfl)
  clear hf h
  match cs, hlen with
  | [b0, b1], _ =>
    simp at e0 e1
    subst e0 e1
    exact ⟨_, _, rfl⟩
theorem open_key {fuel : Nat} {cs : List Value} {x : DataW H × List MemPlace} (h : DataW.trod enc Tryd.prog w base spare held fuel 45 cs = some x) :
    ∃ a b c d, cs = [.int .i64 a, .int .u32 b, .int .i64 c, .int .i64 d] := by
  obtain ⟨hlen, n, hf⟩ := trod_fields Tryd.underlying45 h
  rw [show Tryd.prog.cellsOf 45 = 4 by kernel_rfl] at hlen
  obtain ⟨a0, e0, w0⟩ := field_int hf 0 _ rfl 0 rfl Tryd.underlying3 (by kernel_rfl)
  obtain ⟨y1, g1⟩ := field_any hf 1 _ rfl 1 2 43 rfl rfl (by kernel_rfl)
  obtain ⟨p, q, e1⟩ := open_prefix g1
  obtain ⟨a2, e2, w2⟩ := field_int hf 2 _ rfl 3 rfl Tryd.underlying3 (by kernel_rfl)
  clear hf h g1
  match cs, hlen with
  | [b0, b1, b2, b3], _ =>
    simp at e0 e1 e2
    obtain ⟨rfl, rfl⟩ := e1
    subst e0 e2
    exact ⟨_, _, _, _, rfl⟩
theorem open_attrs {fuel : Nat} {cs : List Value} {x : DataW H × List MemPlace} (h : DataW.trod enc Tryd.prog w base spare held fuel 48 cs = some x) : cs.length = 6 ∧ One cs := by
  obtain ⟨hlen, n, hf⟩ := trod_fields Tryd.underlying48 h
  rw [show Tryd.prog.cellsOf 48 = 6 by kernel_rfl] at hlen
  obtain ⟨a0, e0, w0⟩ := field_int hf 0 _ rfl 0 rfl Tryd.underlying3 (by kernel_rfl)
  obtain ⟨A1, m1, c1, e1⟩ := field_slice hf 1 _ rfl 1 rfl Tryd.underlying46 (by kernel_rfl)
  obtain ⟨a2, e2, w2⟩ := field_int hf 2 _ rfl 2 rfl Tryd.underlying41 (by kernel_rfl)
  obtain ⟨a3, e3, w3⟩ := field_int hf 3 _ rfl 3 rfl Tryd.underlying3 (by kernel_rfl)
  obtain ⟨a4, e4, w4⟩ := field_int hf 4 _ rfl 4 rfl Tryd.underlying3 (by kernel_rfl)
  obtain ⟨A5, m5, c5, e5⟩ := field_slice hf 5 _ rfl 5 rfl Tryd.underlying35 (by kernel_rfl)
  refine ⟨hlen, ?_⟩
  clear hf h
  match cs, hlen with
  | [b0, b1, b2, b3, b4, b5], _ =>
    simp at e0 e1 e2 e3 e4 e5
    subst e0 e1 e2 e3 e4 e5
    intro c hc
    simp at hc
    rcases hc with rfl | rfl | rfl | rfl | rfl | rfl <;> rfl
theorem one_cut {cs : List Value} {k : Nat} (h1 : One (cs.take k)) (h2 : One (cs.drop k)) : One cs := by
  intro c hc
  rw [← List.take_append_drop k cs, List.mem_append] at hc
  rcases hc with hc | hc
  · exact h1 c hc
  · exact h2 c hc
theorem open_route {fuel : Nat} {cs : List Value} {x : DataW H × List MemPlace} (h : DataW.trod enc Tryd.prog w base spare held fuel 50 cs = some x) : cs.length = 10 ∧ One cs := by
  obtain ⟨hlen, n, hf⟩ := trod_fields Tryd.underlying50 h
  rw [show Tryd.prog.cellsOf 50 = 10 by kernel_rfl] at hlen
  obtain ⟨y1, g1⟩ := field_any hf 0 _ rfl 0 4 45 rfl rfl (by kernel_rfl)
  obtain ⟨a, b, c, d, e1⟩ := open_key g1
  obtain ⟨y2, g2⟩ := field_any hf 1 _ rfl 4 6 48 rfl rfl (by kernel_rfl)
  have h2 := (open_attrs g2).2
  refine ⟨hlen, one_cut (k := 4) ?_ ?_⟩
  · rw [List.drop_zero] at e1
    rw [e1]
    intro c hc
    simp at hc
    rcases hc with rfl | rfl | rfl | rfl <;> rfl
  · rwa [List.take_of_length_le (by simp; omega)] at h2
theorem open_option {fuel : Nat} {cs : List Value} {x : DataW H × List MemPlace} (h : DataW.trod enc Tryd.prog w base spare held fuel 52 cs = some x) : ∃ o : OV, cs = o.cs.toList ∧ o.ok := by
  obtain ⟨hlen, n, hf⟩ := trod_fields Tryd.underlying52 h
  rw [show Tryd.prog.cellsOf 52 = 11 by kernel_rfl] at hlen
  obtain ⟨y1, g1⟩ := field_any hf 0 _ rfl 0 10 50 rfl rfl (by kernel_rfl)
  have h1 := (open_route g1).2
  obtain ⟨a2, e2, w2⟩ := field_int hf 1 _ rfl 10 rfl Tryd.underlying3 (by kernel_rfl)
  refine ⟨⟨cs.toArray, a2⟩, by simp, by simpa using hlen, by simpa using e2, w2, ?_⟩
  apply Go.all_oneCell_toArray
  refine one_cut (k := 10) (by simpa using h1) ?_
  intro c hc
  have e3 : cs.drop 10 = [.int .i64 a2] := by
    apply List.ext_getElem?
    intro i
    match i with
    | 0 => simpa using e2
    | i + 1 =>
      rw [List.getElem?_drop, List.getElem?_eq_none (by omega)]
      simp
  rw [e3] at hc
  simp at hc
  subst hc
  rfl
theorem open_options {fuel : Nat} {cs : List Value} {x : DataW H × List MemPlace} (h : DataW.trod enc Tryd.prog w base spare held fuel 53 cs = some x) :
    ∃ (A : Option Addr) (cap : Nat) (l : List OV), cs = [.slice A l.length cap] ∧ l.length ≤ maxLen ∧ Reads w (fun _ => True) A (optCells l) ∧ ∀ o ∈ l, o.ok := by
  obtain ⟨A, cap, ys, hcs, hl, hm, hn, hr, hg⟩ := open_row (sz := 11) (Y := OV) (fun o => o.cs.toList) OV.ok Tryd.underlying53 (by kernel_rfl) (by omega)
    (fun n cs' x hx => open_option hx) h
  exact ⟨A, cap, ys, hcs, by omega, hr, fun m hm' => (hg m hm').1⟩
theorem open_want {fuel : Nat} {cs : List Value} {x : DataW H × List MemPlace} (h : DataW.trod enc Tryd.prog w base spare held fuel 55 cs = some x) :
    ∃ v : WV, cs = v.cs.toList ∧ v.ok ∧ Reads w (fun _ => True) v.D (optCells v.ds) := by
  obtain ⟨hlen, n, hf⟩ := trod_fields Tryd.underlying55 h
  rw [show Tryd.prog.cellsOf 55 = 16 by kernel_rfl] at hlen
  obtain ⟨y0, g0⟩ := field_any hf 0 _ rfl 0 2 43 rfl rfl (by kernel_rfl)
  obtain ⟨p, q, e0⟩ := open_prefix g0
  obtain ⟨a1, e1, w1⟩ := field_int hf 1 _ rfl 2 rfl Tryd.underlying3 (by kernel_rfl)
  obtain ⟨y2, g2⟩ := field_any hf 2 _ rfl 3 11 52 rfl rfl (by kernel_rfl)
  obtain ⟨o, e2, ho⟩ := open_option g2
  obtain ⟨y3, g3⟩ := field_any hf 3 _ rfl 14 1 53 rfl rfl (by kernel_rfl)
  obtain ⟨A, cap, l, e3, hl, hr, hall⟩ := open_options g3
  have e3 := cell_one e3
  obtain ⟨a4, e4, w4⟩ := field_int hf 4 _ rfl 15 rfl Tryd.underlying3 (by kernel_rfl)
  have hface : cs[13]? = some (.int .i64 o.f) := by
    have h1 := ho.face
    have h2 : o.cs.toList[10]? = some (.int .i64 o.f) := by simpa using h1
    rw [← e2] at h2
    simpa [List.getElem?_take, List.getElem?_drop] using h2
  have hO : One o.cs.toList := by
    have h1 := ho.one
    rw [Array.all_eq_true'] at h1
    intro c hc
    exact h1 c (by simpa using hc)
  rw [← e2] at hO
  clear e2 g0 g2 g3 hf h
  refine ⟨⟨cs.toArray, a1, o.f, A, cap, l⟩, by simp, ⟨by simpa using hlen, by simpa using e1, by simpa using hface, by simpa using e3, ho.wf, ?_, hall, by simpa [maxLen] using hl⟩, hr⟩
  apply Go.all_oneCell_toArray
  clear hr hall hl ho hface
  match cs, hlen with
  | [c0, c1, c2, c3, c4, c5, c6, c7, c8, c9, c10, c11, c12, c13, c14, c15], _ =>
    simp at e0 e1 e3 e4
    obtain ⟨rfl, rfl⟩ := e0
    subst e1 e3 e4
    intro c hc
    simp only [List.mem_cons, List.not_mem_nil, or_false] at hc
    have hO' : ∀ c ∈ [c3, c4, c5, c6, c7, c8, c9, c10, c11, c12, c13], c.oneCell' = true := hO
    simp only [List.mem_cons, List.not_mem_nil, or_false] at hO'
    rcases hc with rfl | rfl | rfl | h | h | h | h | h | h | h | h | h | h | h | rfl | rfl
    all_goals first | rfl | exact hO' c (by simp [h])
theorem open_wants {fuel : Nat} {cs : List Value} {x : DataW H × List MemPlace} (h : DataW.trod enc Tryd.prog w base spare held fuel 23 cs = some x) :
    ∃ (A : Option Addr) (cap : Nat) (l : List WV), cs = [.slice A l.length cap] ∧ WantsIn w A l := by
  obtain ⟨A, cap, ys, hcs, hl, hm, hn, hr, hg⟩ := open_row (sz := 16) (Y := WV) (fun o => o.cs.toList) (fun v => v.ok ∧ Reads w (fun _ => True) v.D (optCells v.ds)) Tryd.underlying23 (by kernel_rfl) (by omega)
    (fun n cs' x hx => open_want hx) h
  exact ⟨A, cap, ys, hcs, by unfold maxLen at hm; omega, hr, fun m hm' => (hg m hm').1⟩
theorem open_room {fuel : Nat} {cs : List Value} {x : DataW H × List MemPlace} (h : DataW.trod enc Tryd.prog w base spare held fuel 57 cs = some x) :
    ∃ r : Int × Int, cs = [.int .i64 r.1, .int .i64 r.2] ∧ (Lit.int .i64 r.1).wf = true ∧ (Lit.int .i64 r.2).wf = true := by
  obtain ⟨hlen, n, hf⟩ := trod_fields Tryd.underlying57 h
  rw [show Tryd.prog.cellsOf 57 = 2 by kernel_rfl] at hlen
  obtain ⟨a0, e0, w0⟩ := field_int hf 0 _ rfl 0 rfl Tryd.underlying3 (by kernel_rfl)
  obtain ⟨a1, e1, w1⟩ := field_int hf 1 _ rfl 1 rfl Tryd.underlying3 (by kernel_rfl)
  clear hf h
  match cs, hlen with
  | [b0, b1], _ =>
    simp at e0 e1
    subst e0 e1
    exact ⟨(a0, a1), rfl, w0, w1⟩
theorem open_rooms {fuel : Nat} {cs : List Value} {x : DataW H × List MemPlace} (h : DataW.trod enc Tryd.prog w base spare held fuel 22 cs = some x) :
    ∃ (A : Option Addr) (cap : Nat) (l : List (Int × Int)), cs = [.slice A l.length cap] ∧ RoomsIn w A l := by
  obtain ⟨A, cap, ys, hcs, hl, hm, hn, hr, hg⟩ := open_row (sz := 2) (Y := Int × Int) (fun r => [.int .i64 r.1, .int .i64 r.2]) (fun r => (Lit.int .i64 r.1).wf = true ∧ (Lit.int .i64 r.2).wf = true) Tryd.underlying22 (by kernel_rfl) (by omega)
    (fun n cs' x hx => open_room hx) h
  exact ⟨A, cap, ys, hcs, by unfold maxLen at hm; omega, hr, fun m hm' => (hg m hm').1⟩
theorem open_flowints {fuel : Nat} {cs : List Value} {x : DataW H × List MemPlace} (h : DataW.trod enc Tryd.prog w base spare held fuel 35 cs = some x) :
    ∃ (A : Option Addr) (cap : Nat) (l : List Int), cs = [.slice A l.length cap] ∧ IntsIn w A l := by
  obtain ⟨A, cap, l, hcs, hl, hm, hn, hr, hw⟩ := open_introw Tryd.underlying35 Tryd.underlying3 (by kernel_rfl) h
  exact ⟨A, cap, l, hcs, by unfold maxLen at hm; omega, hr, hw⟩
/-- what the form's own reach says of a slice -/
theorem slice_reach {P : Program} {t e : TypeId} {fuel n c : Nat} {A : Option Addr} {x : DataW H × List MemPlace} (ht : P.underlying t = some (.slice e)) (h : DataW.trod enc P w base spare held fuel t [.slice A n c] = some x)
    (hw : (x.1.weights P t).all (· ≤ reachBytes) = true) : n * P.bytesOf e ≤ 140737488351232 := by
  rcases DataW.trod_slice ht h with ⟨hc, _⟩ | ⟨a, len, cap, elems, rest, m, _, hc, rfl, _, _, _, hlen, _⟩
  · simp at hc
    obtain ⟨_, rfl, _⟩ := hc
    omega
  · simp at hc
    obtain ⟨_, rfl, _⟩ := hc
    simp only [DataW.weights, ht, List.all_cons, Bool.and_eq_true, decide_eq_true_eq, List.length_map] at hw
    have h1 := hw.1
    rw [hlen, Nat.add_mul] at h1
    unfold reachBytes at h1
    omega
end
end Go.Proofs.YtpbghlobkdjpiaaDoor
