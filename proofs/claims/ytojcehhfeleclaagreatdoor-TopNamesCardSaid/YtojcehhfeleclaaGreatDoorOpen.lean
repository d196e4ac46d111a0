/-
  What an argument that reads as data gives a walk: slices of whatever elements, as rows of cells. No program in sight. No condition.
-/
import Derived.Test.YtojcehhfeleclaaGreatDoorKit
import Derived.Deep.Slices
namespace Go.Proofs.YtojcehhfeleclaaGreatDoor
open Go.ChangeShapes Go.WideShapes Go.ChangeAt Go.RowKit

theorem flatMap_at {Y : Type} (f : Y → List Value) (sz : Nat) : ∀ (ys : List Y), (∀ y ∈ ys, (f y).length = sz) → ∀ (j : Nat) (u : Value), (ys.flatMap f)[j]? = some u →
    ∃ (i r : Nat) (h : i < ys.length), j = i * sz + r ∧ r < sz ∧ (f ys[i])[r]? = some u
  | [], _, j, u, h => by simp at h
  | y :: ys, hy, j, u, h => by
    have hl : (f y).length = sz := hy y (by simp)
    rw [List.flatMap_cons] at h
    by_cases hj : j < sz
    · rw [List.getElem?_append_left (by omega)] at h
      exact ⟨0, j, by simp, by omega, hj, h⟩
    · rw [List.getElem?_append_right (by omega), hl] at h
      obtain ⟨i, r, hi, e, hr, hu⟩ := flatMap_at f sz ys (fun y hy' => hy y (by simp [hy'])) _ u h
      refine ⟨i + 1, r, by simpa using hi, ?_, hr, by simpa using hu⟩
      rw [Nat.succ_mul]; omega

theorem addr_add {a : Addr} {b off : Nat} (h : a = ⟨b, off, none⟩) (j : Nat) : a.add j = ⟨b, off + j, none⟩ := by
  subst h
  unfold Addr.add
  split <;> simp_all

theorem choose_list {Y : Type} {P : Nat → Y → Prop} : ∀ n : Nat, (∀ i, i < n → ∃ y, P i y) → ∃ ys : List Y, ys.length = n ∧ ∀ (i : Nat) (h : i < ys.length), P i ys[i]
  | 0, _ => ⟨[], rfl, fun i h => by simp at h⟩
  | n + 1, h => by
    obtain ⟨ys, hl, hp⟩ := choose_list n (fun i hi => h i (by omega))
    obtain ⟨y, hy⟩ := h n (by omega)
    refine ⟨ys ++ [y], by simp [hl], fun i hi => ?_⟩
    by_cases hin : i < ys.length
    · rw [List.getElem_append_left hin]; exact hp i hin
    · have e : i = n := by simp at hi; omega
      subst e
      simp [← hl]
      rw [hl]
      exact hy

section
variable {H : Type} {enc : TypeId × Value → H} {P : Program} {w : World} {base : Nat} {spare : Nat → Bool} {held : Bool}
/-- a slice, element by element: 'dec' tells what an element's cells are -/
theorem open_row {Y : Type} (cellsY : Y → List Value) (Good : Y → Prop) {t e : TypeId} {sz fuel : Nat} {cs : List Value} {x : DataW H × List MemPlace} (ht : P.underlying t = some (.slice e)) (hsz : P.cellsOf e = sz) (hpos : 0 < sz)
    (dec : ∀ n cs' x, DataW.trod enc P w base spare held n e cs' = some x → ∃ y, cs' = cellsY y ∧ Good y)
    (h : DataW.trod enc P w base spare held fuel t cs = some x) :
    ∃ (A : Option Addr) (cap : Nat) (ys : List Y), cs = [.slice A ys.length cap] ∧ ys.length ≤ cap ∧ cap ≤ maxLen ∧ (A = none → cap = 0) ∧ Reads w (fun _ => True) A (ys.flatMap cellsY) ∧ ∀ y ∈ ys, Good y ∧ (cellsY y).length = sz := by
  rcases Go.Deep.open_slice ht h with ⟨hcs, _⟩ | ⟨a, len, cap, m, n, D, Pl, hcs, hb, hl, hm, hmm, hx, hi⟩
  · exact ⟨none, 0, [], hcs, by simp, by simp, fun _ => rfl, Reads.nil, fun y hy => by simp at hy⟩
  · have hlm : len ≤ m := by subst hmm; split <;> omega
    have each : ∀ i, i < len → ∃ y : Y, Good y ∧ (cellsY y).length = sz ∧ ∀ r, r < sz → w.cell? ((a.add (i * sz)).add r) = (cellsY y)[r]? := by
      intro i hil
      obtain ⟨cs', hc, htr⟩ := hi i (by omega)
      rw [hsz] at hc
      obtain ⟨_, hlen, hat⟩ := World.cells?_some hc
      obtain ⟨y, rfl, hg⟩ := dec n cs' _ htr
      exact ⟨y, hg, hlen, hat⟩
    obtain ⟨ys, hyl, hys⟩ := choose_list len each
    refine ⟨some a, cap, ys, by rw [hyl]; exact hcs, by omega, hm, (fun e => by cases e), ?_, fun y hy => ?_⟩
    · by_cases hz : ys = []
      · subst hz; exact Reads.nil
      · have h0 : 0 < ys.length := List.length_pos_iff.2 hz
        have hc0 := (hys 0 h0).2.2 0 hpos
        have hl0 := (hys 0 h0).2.1
        rw [List.getElem?_eq_getElem (by omega)] at hc0
        have hsp : a.spot = none := by
          have e0 : (a.add (0 * sz)).add 0 = a := by simp [Addr.add]
          rw [e0] at hc0
          exact World.cell?_spot hc0
        obtain ⟨b, off, spot⟩ := a
        simp at hsp
        subst hsp
        refine .inr ⟨b, off, rfl, trivial, ?_, fun j u hj => ?_⟩
        · have := block_lt_of_cell hc0
          simpa [Addr.add] using this
        · obtain ⟨i, r, hil, rfl, hr, hu⟩ := flatMap_at cellsY sz ys (fun y hy => by
            obtain ⟨i, hi, rfl⟩ := List.mem_iff_getElem.1 hy
            exact (hys i hi).2.1) j u hj
          have := (hys i hil).2.2 r hr
          rw [addr_add rfl, addr_add rfl] at this
          rw [← Nat.add_assoc, this, hu]
    · obtain ⟨i, hi, rfl⟩ := List.mem_iff_getElem.1 hy
      exact ⟨(hys i hi).1, (hys i hi).2.1⟩

theorem flatMap_single {Y : Type} (f : Y → Value) (ys : List Y) : ys.flatMap (fun y => [f y]) = ys.map f := by
  induction ys with
  | nil => rfl
  | cons y ys ih => simp [List.flatMap_cons, ih]

theorem open_bools {t e : TypeId} {fuel : Nat} {cs : List Value} {x : DataW H × List MemPlace} (ht : P.underlying t = some (.slice e)) (he : P.underlying e = some .bool) (hsz : P.cellsOf e = 1)
    (h : DataW.trod enc P w base spare held fuel t cs = some x) :
    ∃ (A : Option Addr) (cap : Nat) (l : List Bool), cs = [.slice A l.length cap] ∧ l.length ≤ cap ∧ cap ≤ maxLen ∧ (A = none → cap = 0) ∧ Reads w (fun _ => True) A (l.map Value.bool) := by
  obtain ⟨A, cap, ys, hcs, hl, hm, hn, hr, _⟩ := open_row (Y := Bool) (fun b => [.bool b]) (fun _ => True) ht hsz (by omega)
    (fun n cs' x hx => by obtain ⟨b, rfl, _⟩ := DataW.trod_bool he hx; exact ⟨b, rfl, trivial⟩) h
  exact ⟨A, cap, ys, hcs, hl, hm, hn, by rw [← flatMap_single]; exact hr⟩

/-- a byte as a value -/
def vb (c : UInt8) : Value := .int .u8 c.toNat
theorem u8_of_wf {n : Int} (h : (Lit.int .u8 n).wf = true) : ∃ c : UInt8, n = c.toNat := by
  have hx : 0 ≤ n ∧ n ≤ 255 := by simpa [Lit.wf, IntKind.min, IntKind.max, IntKind.signed, IntKind.bits] using h
  exact ⟨UInt8.ofNat n.toNat, by rw [UInt8.toNat_ofNat']; omega⟩

theorem open_bytes {t e : TypeId} {fuel : Nat} {cs : List Value} {x : DataW H × List MemPlace} (ht : P.underlying t = some (.slice e)) (he : P.underlying e = some (.int .u8)) (hsz : P.cellsOf e = 1)
    (h : DataW.trod enc P w base spare held fuel t cs = some x) :
    ∃ (A : Option Addr) (cap : Nat) (l : List UInt8), cs = [.slice A l.length cap] ∧ l.length ≤ cap ∧ cap ≤ maxLen ∧ (A = none → cap = 0) ∧ Reads w (fun _ => True) A (l.map vb) := by
  obtain ⟨A, cap, ys, hcs, hl, hm, hn, hr, _⟩ := open_row (Y := UInt8) (fun b => [vb b]) (fun _ => True) ht hsz (by omega)
    (fun n cs' x hx => by
      obtain ⟨k, rfl, _, hw⟩ := DataW.trod_int he hx
      obtain ⟨c, rfl⟩ := u8_of_wf hw
      exact ⟨c, rfl, trivial⟩) h
  exact ⟨A, cap, ys, hcs, hl, hm, hn, by rw [← flatMap_single]; exact hr⟩

theorem open_introw {k : IntKind} {t e : TypeId} {fuel : Nat} {cs : List Value} {x : DataW H × List MemPlace} (ht : P.underlying t = some (.slice e)) (he : P.underlying e = some (.int k)) (hsz : P.cellsOf e = 1)
    (h : DataW.trod enc P w base spare held fuel t cs = some x) :
    ∃ (A : Option Addr) (cap : Nat) (l : List Int), cs = [.slice A l.length cap] ∧ l.length ≤ cap ∧ cap ≤ maxLen ∧ (A = none → cap = 0) ∧ Reads w (fun _ => True) A (l.map (Value.int k)) ∧ ∀ n ∈ l, (Lit.int k n).wf = true := by
  obtain ⟨A, cap, ys, hcs, hl, hm, hn, hr, hg⟩ := open_row (Y := Int) (fun b => [.int k b]) (fun n => (Lit.int k n).wf = true) ht hsz (by omega)
    (fun n cs' x hx => by
      obtain ⟨j, rfl, _, hw⟩ := DataW.trod_int he hx
      exact ⟨j, rfl, hw⟩) h
  exact ⟨A, cap, ys, hcs, hl, hm, hn, by rw [← flatMap_single]; exact hr, fun n hn => (hg n hn).1⟩
end
end Go.Proofs.YtojcehhfeleclaaGreatDoor
