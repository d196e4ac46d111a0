/-
  What is monitored: All, as data. No program in sight. No condition.
-/
import Derived.Test.YtbmbpcibihddaaaDoorBmpK
import Derived.Great.BuildSlice
namespace Go.Proofs.YtbmbpcibihddaaaDoor
open Go.ChangeShapes Go.WideShapes Go.ChangeAt Go.RowKit

def ballF : Nat → List UInt8 → Option (List MD)
  | 0, l => if l = [] then some [] else none
  | f + 1, l => if l = [] then some [] else match bget l with
    | none => none
    | some (m, n) => (ballF f (l.drop n)).map (m :: ·)
/-- what bytes are, one behind the other -/
def ball (l : List UInt8) : Option (List MD) := ballF l.length l
theorem ballF_nil (f : Nat) : ballF f [] = some [] := by cases f <;> rfl
theorem ballF_none {f : Nat} {l : List UInt8} (hl : l ≠ []) (hf : l.length ≤ f) (h : bget l = none) : ballF f l = none := by
  cases f with
  | zero => exact absurd (List.eq_nil_of_length_eq_zero (by omega)) hl
  | succ f => unfold ballF; rw [if_neg hl, h]
theorem ballF_some {f : Nat} {l : List UInt8} {m : MD} {n : Nat} (hl : l ≠ []) (hf : l.length ≤ f) (h : bget l = some (m, n)) : ∃ f', ballF f l = (ballF f' (l.drop n)).map (m :: ·) ∧ (l.drop n).length ≤ f' := by
  cases f with
  | zero => exact absurd (List.eq_nil_of_length_eq_zero (by omega)) hl
  | succ f =>
    have := (bget_some h).2.2.1
    refine ⟨f, ?_, by simp; omega⟩
    rw [ballF, if_neg hl, h]
def monCells (vs : List MoV) : List Value := vs.flatMap (fun m => m.cells.toList)
theorem monCells_len (vs : List MoV) : (monCells vs).length = vs.length * 10 := by
  induction vs with
  | nil => rfl
  | cons v vs ih =>
    have : (monCells (v :: vs)).length = 10 + (monCells vs).length := by simp [monCells, MoV.cells]; omega
    rw [this, ih, List.length_cons]; omega
theorem monCells_one (vs : List MoV) : ∀ u ∈ monCells vs, u.oneCell' = true := by
  intro u hu
  simp only [monCells, List.mem_flatMap] at hu
  obtain ⟨m, -, hm⟩ := hu
  have := mon_one m
  rw [Array.all_eq_true'] at this
  exact this u (by simpa using hm)
theorem monCells_snoc (vs : List MoV) (m : MoV) : monCells (vs ++ [m]) = monCells vs ++ m.cells.toList := by simp [monCells]
theorem infoMon : (Tryd.prog.info? 45).map (fun i => (i.zero, i.size, i.bytes)) = some (some (.agg (mon0 0).cells), 10, 112) := by kernel_rfl
theorem fill_mon (m : MoV) : Instr.fill (fun i => some (i * 10, 10)) ((Array.range (1 * 10)).map ((Value.agg (mon0 0).cells).cells[· % (Value.agg (mon0 0).cells).cells.size]!)) [(0, .agg m.cells)] = some m.cells := by
  obtain ⟨kind, id, addr, asn, time, reason, own, sA, sc, sent, cA, cc, came, text⟩ := m
  simp [Instr.fill, MoV.cells, mon0, Value.cells]
  rw [show Array.range 10 = #[0, 1, 2, 3, 4, 5, 6, 7, 8, 9] from by decide]
  simp
def sliceN : Value → Nat
  | .slice _ n _ => n
  | _ => 0
/-- on the way: what is read so far, of what bytes, what is left -/
structure AS (w W : World) (l : List UInt8) (A : Option Addr) (c : Nat) (rest : List UInt8) (v : Value) (vs : List MoV) : Prop where
  own : W.ownsRow w.heap.size 45 10 v vs.length (monCells vs)
  bel : Below w.heap.size w W
  rd : Reads W (fun k => k < w.heap.size) A (rest.map vb)
  rc : rest.length ≤ c
  each : ∀ m ∈ vs, m.Rd W (fun k => w.heap.size ≤ k ∧ v.ownBlock ≠ some k)
  len : vs.length + rest.length ≤ l.length
  eq : ∃ f, rest.length ≤ f ∧ ball l = (ballF f rest).map (vs.map MoV.d ++ ·)
theorem opt_map_map (x : Option (List MD)) (a : List MD) (m : MD) : (x.map (m :: ·)).map (a ++ ·) = x.map ((a ++ [m]) ++ ·) := by
  cases x <;> simp
/-- one more -/
theorem AS.step {w W w2 w3 : World} {l rest : List UInt8} {A : Option Addr} {c n : Nat} {v v3 : Value} {vs : List MoV} {m : MoV} (h : AS w W l A c rest v vs) (hne : rest ≠ []) (hg : bget rest = some (m.d, n)) (hm : m.Rd w2 (fun k => W.heap.size ≤ k)) (hb : Below W.heap.size W w2)
    (ho : w3.ownsRow w.heap.size 45 10 v3 (vs.length + 1) (monCells vs ++ m.cells.toList)) (hgr : w2.grownBy w3 v.ownBlock) (hloc : v3.ownBlock = v.ownBlock ∨ v3.ownBlock = some w2.heap.size) :
    AS w w3 l (cutA A c n) (c - n) (rest.drop n) v3 (vs ++ [m]) := by
  have hlt : ∀ k, v.ownBlock = some k → k < W.heap.size := fun k hk => (h.own.lt k hk).2
  have hge : ∀ k, v.ownBlock = some k → w.heap.size ≤ k := fun k hk => (h.own.lt k hk).1
  have ho3 : Only (fun k => v.ownBlock = some k) w2 w3 := (Only.refl _ w2).grown hgr (fun k hk _ => hk)
  have hb2 := h.bel.trans (hb.mono h.bel.size)
  obtain ⟨hk1, hk2, hn6, hnl, -⟩ := bget_some hg
  have hrl := h.rc
  refine ⟨by rw [List.length_append, monCells_snoc]; exact ho, hb2.trans (ho3.below hb2.size (fun k hk => hge k hk)), ?_, by simp; omega, ?_, ?_, ?_⟩
  · have h1 := ((h.rd.below hb (fun k hl hk => hl)).only ho3 (fun k _ hk e => by have := hge k e; omega)).cut (c := c) (by simpa using hrl) n
    rw [← List.map_drop] at h1
    exact h1
  · intro x hx
    rcases List.mem_append.1 hx with hx | hx
    · have h1 := ((h.each x hx).mono (G := fun k => (w.heap.size ≤ k ∧ v.ownBlock ≠ some k) ∧ k < W.heap.size) (fun k hl hk => ⟨hk, hl⟩)).below hb (fun _ hl _ => hl)
      have h2 := h1.only ho3 (fun k _ hk e => hk.1.2 e)
      refine h2.mono (fun k _ hk => ⟨hk.1.1, fun e => ?_⟩)
      rcases hloc with e' | e'
      · rw [e'] at e; exact hk.1.2 e
      · rw [e'] at e; injection e with e; have := hb.size; omega
    · rw [List.mem_singleton] at hx
      subst hx
      have h1 := hm.mono (G := fun k => W.heap.size ≤ k ∧ k < w2.heap.size) (fun k hl hk => ⟨hk, hl⟩)
      have h2 := h1.only ho3 (fun k _ hk e => by have := hlt k e; omega)
      refine h2.mono (fun k _ hk => ⟨Nat.le_trans h.bel.size hk.1, fun e => ?_⟩)
      rcases hloc with e' | e'
      · rw [e'] at e; have := hlt k e; omega
      · rw [e'] at e; injection e with e; omega
  · have := h.len
    simp
    omega
  · obtain ⟨f, hf, he⟩ := h.eq
    obtain ⟨f', he', hf'⟩ := ballF_some hne hf hg
    refine ⟨f', hf', ?_⟩
    rw [he, he', opt_map_map, List.map_append]
    rfl
end Go.Proofs.YtbmbpcibihddaaaDoor
