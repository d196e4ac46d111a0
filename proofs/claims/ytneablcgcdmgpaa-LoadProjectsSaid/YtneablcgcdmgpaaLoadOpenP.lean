/-
  Wants as they read, to what the walk of their loads asks of the world. No condition.
-/
import Derived.Test.YtneablcgcdmgpaaLoadR
namespace Go.Proofs.Ytneablcgcdmgpaa
open Go.ChangeShapes Go.WideShapes Go.ChangeAt Go.RowKit

/-- an option's cells: the key, the attributes as they stand, the interface -/
def OptIn (w : World) (cs : Array Value) : Prop := ∃ (r p q d : Int) (a : AV) (f : Int), cs = #[.int .i64 r, .int .u32 p, .int .i64 q, .int .i64 d, .int .i64 a.og, .slice a.P a.sg.length a.pc, .int .u32 a.nx, .int .i64 a.md, .int .i64 a.pf, .slice a.C a.cm.length a.cc, .int .i64 f] ∧ AttrsIn w a
theorem OptIn.below {w w' : World} {cs : Array Value} (h : OptIn w cs) (hb : Below w.heap.size w w') : OptIn w' cs := by
  obtain ⟨r, p, q, d, a, f, e, h⟩ := h
  exact ⟨r, p, q, d, a, f, e, h.below hb⟩
structure WantsOf (w : World) (A : Option Addr) (ws : List WV) : Prop where
  ins : WantsIn w A ws
  opt : ∀ v ∈ ws, OptIn w (v.took v.at_)
theorem WantsOf.below {w w' : World} {A : Option Addr} {ws : List WV} (h : WantsOf w A ws) (hb : Below w.heap.size w w') : WantsOf w' A ws := ⟨h.ins.below hb, fun v hv => (h.opt v hv).below hb⟩
section
variable {H : Type} {enc : TypeId × Value → H} {w : World} {base : Nat} {spare : Nat → Bool} {held : Bool}
theorem open_prefix {fuel : Nat} {cs : List Value} {x : DataW H × List MemPlace} (h : DataW.trod enc Try.prog w base spare held fuel 41 cs = some x) :
    ∃ a b, cs = [.int .u32 a, .int .i64 b] := by
  obtain ⟨hlen, n, hf⟩ := trod_fields Try.underlying41 h
  rw [show Try.prog.cellsOf 41 = 2 by kernel_rfl] at hlen
  obtain ⟨a0, e0, w0⟩ := field_int hf 0 _ rfl 0 rfl Try.underlying39 (by kernel_rfl)
  obtain ⟨a1, e1, w1⟩ := field_int hf 1 _ rfl 1 rfl Try.underlying3 (by kernel_rfl)
  clear hf h
  match cs, hlen with
  | [b0, b1], _ =>
    simp at e0 e1
    subst e0 e1
    exact ⟨_, _, rfl⟩
theorem open_key {fuel : Nat} {cs : List Value} {x : DataW H × List MemPlace} (h : DataW.trod enc Try.prog w base spare held fuel 43 cs = some x) :
    ∃ a b c d, cs = [.int .i64 a, .int .u32 b, .int .i64 c, .int .i64 d] := by
  obtain ⟨hlen, n, hf⟩ := trod_fields Try.underlying43 h
  rw [show Try.prog.cellsOf 43 = 4 by kernel_rfl] at hlen
  obtain ⟨a0, e0, w0⟩ := field_int hf 0 _ rfl 0 rfl Try.underlying3 (by kernel_rfl)
  obtain ⟨y1, g1⟩ := field_any hf 1 _ rfl 1 2 41 rfl rfl (by kernel_rfl)
  obtain ⟨p, q, e1⟩ := open_prefix g1
  obtain ⟨a2, e2, w2⟩ := field_int hf 2 _ rfl 3 rfl Try.underlying3 (by kernel_rfl)
  clear hf h g1
  match cs, hlen with
  | [b0, b1, b2, b3], _ =>
    simp at e0 e1 e2
    obtain ⟨rfl, rfl⟩ := e1
    subst e0 e2
    exact ⟨_, _, _, _, rfl⟩
theorem open_ints {fuel : Nat} {cs : List Value} {x : DataW H × List MemPlace} (h : DataW.trod enc Try.prog w base spare held fuel 45 cs = some x) :
    ∃ (A : Option Addr) (cap : Nat) (l : List Int), cs = [.slice A l.length cap] ∧ IntsIn w A l := by
  obtain ⟨A, cap, l, hcs, hl, hm, hn, hr, hg⟩ := open_introw Try.underlying45 Try.underlying3 (by kernel_rfl) h
  exact ⟨A, cap, l, hcs, by unfold maxLen at hm; omega, hr⟩
theorem open_seg {fuel : Nat} {cs : List Value} {x : DataW H × List MemPlace} (h : DataW.trod enc Try.prog w base spare held fuel 85 cs = some x) :
    ∃ s : SV, cs = s.cells ∧ IntsIn w s.A s.l := by
  obtain ⟨hlen, n, hf⟩ := trod_fields Try.underlying85 h
  rw [show Try.prog.cellsOf 85 = 2 by kernel_rfl] at hlen
  obtain ⟨a0, e0⟩ := field_bool hf 0 _ rfl 0 rfl Try.underlying4 (by kernel_rfl)
  obtain ⟨y1, g1⟩ := field_any hf 1 _ rfl 1 1 45 rfl rfl (by kernel_rfl)
  obtain ⟨A, cap, l, e1, hl⟩ := open_ints g1
  have e1 := cell_one e1
  clear hf h g1
  match cs, hlen with
  | [b0, b1], _ =>
    simp at e0 e1
    subst e0 e1
    exact ⟨⟨a0, A, l, cap⟩, rfl, hl⟩
theorem open_segs {fuel : Nat} {cs : List Value} {x : DataW H × List MemPlace} (h : DataW.trod enc Try.prog w base spare held fuel 44 cs = some x) :
    ∃ (A : Option Addr) (cap : Nat) (l : List SV), cs = [.slice A l.length cap] ∧ l.length ≤ 9223372036854775807 ∧ Reads w (fun _ => True) A (l.flatMap SV.cells) ∧ ∀ s ∈ l, IntsIn w s.A s.l := by
  obtain ⟨A, cap, ys, hcs, hl, hm, hn, hr, hg⟩ := open_row (sz := 2) (Y := SV) SV.cells (fun s => IntsIn w s.A s.l) Try.underlying44 (by kernel_rfl) (by omega)
    (fun n cs' x hx => open_seg hx) h
  exact ⟨A, cap, ys, hcs, by unfold maxLen at hm; omega, hr, fun m hm' => (hg m hm').1⟩
theorem open_attrs {fuel : Nat} {cs : List Value} {x : DataW H × List MemPlace} (h : DataW.trod enc Try.prog w base spare held fuel 47 cs = some x) : ∃ a : AV, cs = a.cs.toList ∧ AttrsIn w a := by
  obtain ⟨hlen, n, hf⟩ := trod_fields Try.underlying47 h
  rw [show Try.prog.cellsOf 47 = 6 by kernel_rfl] at hlen
  obtain ⟨a0, e0, w0⟩ := field_int hf 0 _ rfl 0 rfl Try.underlying3 (by kernel_rfl)
  obtain ⟨y1, g1⟩ := field_any hf 1 _ rfl 1 1 44 rfl rfl (by kernel_rfl)
  obtain ⟨A1, c1, l1, e1, hl1, hr1, he1⟩ := open_segs g1
  have e1 := cell_one e1
  obtain ⟨a2, e2, w2⟩ := field_int hf 2 _ rfl 2 rfl Try.underlying39 (by kernel_rfl)
  obtain ⟨a3, e3, w3⟩ := field_int hf 3 _ rfl 3 rfl Try.underlying3 (by kernel_rfl)
  obtain ⟨a4, e4, w4⟩ := field_int hf 4 _ rfl 4 rfl Try.underlying3 (by kernel_rfl)
  obtain ⟨y5, g5⟩ := field_any hf 5 _ rfl 5 1 45 rfl rfl (by kernel_rfl)
  obtain ⟨A5, c5, l5, e5, hl5⟩ := open_ints g5
  have e5 := cell_one e5
  clear hf h g1 g5
  match cs, hlen with
  | [b0, b1, b2, b3, b4, b5], _ =>
    simp at e0 e1 e2 e3 e4 e5
    subst e0 e1 e2 e3 e4 e5
    exact ⟨⟨a0, A1, l1, c1, a2, a3, a4, A5, l5, c5⟩, rfl, hl1, hr1, he1, hl5⟩
theorem open_option {fuel : Nat} {cs : List Value} {x : DataW H × List MemPlace} (h : DataW.trod enc Try.prog w base spare held fuel 51 cs = some x) : ∃ o : OV, cs = o.cs.toList ∧ o.ok ∧ OptIn w o.cs := by
  obtain ⟨hlen, n, hf⟩ := trod_fields Try.underlying51 h
  rw [show Try.prog.cellsOf 51 = 11 by kernel_rfl] at hlen
  obtain ⟨y1, g1⟩ := field_any hf 0 _ rfl 0 10 49 rfl rfl (by kernel_rfl)
  obtain ⟨hlen1, n1, hf1⟩ := trod_fields Try.underlying49 g1
  obtain ⟨y2, g2⟩ := field_any hf1 0 _ rfl 0 4 43 rfl rfl (by kernel_rfl)
  obtain ⟨r, p, q, d, e2⟩ := open_key g2
  obtain ⟨y3, g3⟩ := field_any hf1 1 _ rfl 4 6 47 rfl rfl (by kernel_rfl)
  obtain ⟨a, e3, ha⟩ := open_attrs g3
  obtain ⟨a4, e4, w4⟩ := field_int hf 1 _ rfl 10 rfl Try.underlying3 (by kernel_rfl)
  clear hf h g1 hf1 g2 g3 hlen1
  match cs, hlen with
  | [c0, c1, c2, c3, c4, c5, c6, c7, c8, c9, c10], _ =>
    unfold AV.cs at e3
    simp at e2 e3 e4
    obtain ⟨rfl, rfl, rfl, rfl⟩ := e2
    obtain ⟨rfl, rfl, rfl, rfl, rfl, rfl⟩ := e3
    subst e4
    exact ⟨⟨#[.int .i64 r, .int .u32 p, .int .i64 q, .int .i64 d, .int .i64 a.og, .slice a.P a.sg.length a.pc, .int .u32 a.nx, .int .i64 a.md, .int .i64 a.pf, .slice a.C a.cm.length a.cc, .int .i64 a4], a4⟩, rfl, ⟨rfl, rfl, w4, by simp [Value.oneCell']⟩, ⟨r, p, q, d, a, a4, rfl, ha⟩⟩
theorem open_options {fuel : Nat} {cs : List Value} {x : DataW H × List MemPlace} (h : DataW.trod enc Try.prog w base spare held fuel 52 cs = some x) :
    ∃ (A : Option Addr) (cap : Nat) (l : List OV), cs = [.slice A l.length cap] ∧ l.length ≤ maxLen ∧ Reads w (fun _ => True) A (optCells l) ∧ ∀ o ∈ l, o.ok ∧ OptIn w o.cs := by
  obtain ⟨A, cap, ys, hcs, hl, hm, hn, hr, hg⟩ := open_row (sz := 11) (Y := OV) (fun o => o.cs.toList) (fun o => o.ok ∧ OptIn w o.cs) Try.underlying52 (by kernel_rfl) (by omega)
    (fun n cs' x hx => open_option hx) h
  exact ⟨A, cap, ys, hcs, by omega, hr, fun m hm' => (hg m hm').1⟩
/-- what an opened want is -/
structure WantAt (w : World) (v : WV) : Prop where
  ok : v.ok
  at_ : v.cs[15]? = some (.int .i64 v.at_)
  rd : Reads w (fun _ => True) v.D (optCells v.ds)
  opt : OptIn w (v.took v.at_)
theorem open_want {fuel : Nat} {cs : List Value} {x : DataW H × List MemPlace} (h : DataW.trod enc Try.prog w base spare held fuel 54 cs = some x) :
    ∃ v : WV, cs = v.cs.toList ∧ WantAt w v := by
  obtain ⟨hlen, n, hf⟩ := trod_fields Try.underlying54 h
  rw [show Try.prog.cellsOf 54 = 16 by kernel_rfl] at hlen
  obtain ⟨y0, g0⟩ := field_any hf 0 _ rfl 0 2 41 rfl rfl (by kernel_rfl)
  obtain ⟨p, q, e0⟩ := open_prefix g0
  obtain ⟨a1, e1, w1⟩ := field_int hf 1 _ rfl 2 rfl Try.underlying3 (by kernel_rfl)
  obtain ⟨y2, g2⟩ := field_any hf 2 _ rfl 3 11 51 rfl rfl (by kernel_rfl)
  obtain ⟨o, e2, ho, hoi⟩ := open_option g2
  obtain ⟨y3, g3⟩ := field_any hf 3 _ rfl 14 1 52 rfl rfl (by kernel_rfl)
  obtain ⟨A, cap, l, e3, hl, hr, hall⟩ := open_options g3
  have e3 := cell_one e3
  obtain ⟨a4, e4, w4⟩ := field_int hf 4 _ rfl 15 rfl Try.underlying3 (by kernel_rfl)
  have hface : cs[13]? = some (.int .i64 o.f) := by
    have h1 := ho.face
    have h2 : o.cs.toList[10]? = some (.int .i64 o.f) := by simpa using h1
    rw [← e2] at h2
    simpa [List.getElem?_take, List.getElem?_drop] using h2
  have hO : One o.cs.toList := by
    have h1 := ho.one
    rw [Array.all_eq_true'] at h1
    intro c hc
    exact h1 c (by simpa using hc)
  rw [← e2] at hO
  have hoc : o.cs = ((cs.drop 3).take 11).toArray := by rw [e2]
  clear e2 g0 g2 g3 hf h
  have hat : (WV.mk cs.toArray a1 o.f A cap l).at_ = a4 := by
    unfold WV.at_
    simp [e4]
  refine ⟨⟨cs.toArray, a1, o.f, A, cap, l⟩, by simp, ⟨by simpa using hlen, by simpa using e1, by simpa using hface, by simpa using e3, ho.wf, ?_, fun o ho => (hall o ho).1, by simpa [maxLen] using hl⟩, by rw [hat]; simpa using e4, hr, ?_⟩
  · apply Go.all_oneCell_toArray
    clear hr hall hl ho hface hat hoc hoi
    match cs, hlen with
    | [c0, c1, c2, c3, c4, c5, c6, c7, c8, c9, c10, c11, c12, c13, c14, c15], _ =>
      simp at e0 e1 e3 e4
      obtain ⟨rfl, rfl⟩ := e0
      subst e1 e3 e4
      intro c hc
      simp only [List.mem_cons, List.not_mem_nil, or_false] at hc
      have hO' : ∀ c ∈ [c3, c4, c5, c6, c7, c8, c9, c10, c11, c12, c13], c.oneCell' = true := hO
      simp only [List.mem_cons, List.not_mem_nil, or_false] at hO'
      rcases hc with rfl | rfl | rfl | h | h | h | h | h | h | h | h | h | h | h | rfl | rfl
      all_goals first | rfl | exact hO' c (by simp [h])
  · generalize (WV.mk cs.toArray a1 o.f A cap l).at_ = k
    unfold WV.took
    by_cases hk : 0 ≤ k ∧ k < l.length
    · have hk2 : k.toNat < l.length := by omega
      rw [if_pos hk]
      simp only [List.getD, List.getElem?_eq_getElem hk2, Option.getD_some]
      exact (hall _ (List.getElem_mem hk2)).2
    · rw [if_neg hk]
      rw [hoc] at hoi
      have : cs.toArray.extract 3 14 = ((cs.drop 3).take 11).toArray := by simp [List.extract_eq_take_drop]
      rw [this]
      exact hoi
theorem open_wants {fuel : Nat} {cs : List Value} {x : DataW H × List MemPlace} (h : DataW.trod enc Try.prog w base spare held fuel 38 cs = some x) :
    ∃ (A : Option Addr) (cap : Nat) (l : List WV), cs = [.slice A l.length cap] ∧ WantsOf w A l := by
  obtain ⟨A, cap, ys, hcs, hl, hm, hn, hr, hg⟩ := open_row (sz := 16) (Y := WV) (fun o => o.cs.toList) (WantAt w) Try.underlying38 (by kernel_rfl) (by omega)
    (fun n cs' x hx => open_want hx) h
  exact ⟨A, cap, ys, hcs, ⟨by unfold maxLen at hm; omega, hr, fun m hm' => ⟨(hg m hm').1.ok, (hg m hm').1.at_, (hg m hm').1.rd⟩⟩, fun m hm' => (hg m hm').1.opt⟩
end
end Go.Proofs.Ytneablcgcdmgpaa
