/-
  Messages: known, fits, Check of the program: one contract each. No condition but that the table of least lengths reads as it is laid.
-/
import Derived.Test.YtbmbpcibihddaaaDoorNoteA
namespace Go.Proofs.YtbmbpcibihddaaaDoor
open Go.ChangeShapes Go.WideShapes Go.ChangeAt Go.RowKit

/-- a message as a value: its type, where its body lies -/
structure MV where
  ty : Int
  A : Option Addr
  c : Nat
  d : List UInt8
def MV.cells (m : MV) : Array Value := #[.int .i64 m.ty, .slice m.A m.d.length m.c]
def MV.val (m : MV) : Value := .agg m.cells

/-- a type's least length with its head; 0: there is no such type -/
def leastZ (k : Int) : Int := if k = 1 then 29 else if k = 2 then 23 else if k = 3 then 21 else if k = 4 then 19 else 0
def fknownB (c : Int) : Bool := decide (1 ≤ c) && decide (c ≤ 4)
def fitsF (k n : Int) : Bool := decide (leastZ k ≤ n) && decide (n ≤ 4096) && (decide (k ≠ 4) || decide (n = 19))
/-- may a message be? -/
def MV.ok (m : MV) : Bool := fknownB m.ty && fitsF m.ty (19 + m.d.length)
def MV.err (m : MV) : Int := if m.ok then 0 else 30
theorem MV.err_ok {m : MV} (h : m.ok = true) : m.err = 0 := if_pos h
theorem MV.err_no {m : MV} (h : m.ok = false) : m.err = 30 := if_neg (by simp [h])

/-- the table of least lengths as it is laid -/
structure LeastAt (w : World) : Prop where
  c1 : w.cell? ⟨0, 1, none⟩ = some (.int .i64 29)
  c2 : w.cell? ⟨0, 2, none⟩ = some (.int .i64 23)
  c3 : w.cell? ⟨0, 3, none⟩ = some (.int .i64 21)
  c4 : w.cell? ⟨0, 4, none⟩ = some (.int .i64 19)
theorem LeastAt.lt {w : World} (h : LeastAt w) : 0 < w.heap.size := block_lt_of_cell h.c1
theorem LeastAt.below {w w' : World} (h : LeastAt w) (hb : Below w.heap.size w w') : LeastAt w' :=
  ⟨(hb.cell (p := ⟨0, 1, none⟩) h.lt).trans h.c1, (hb.cell (p := ⟨0, 2, none⟩) h.lt).trans h.c2, (hb.cell (p := ⟨0, 3, none⟩) h.lt).trans h.c3, (hb.cell (p := ⟨0, 4, none⟩) h.lt).trans h.c4⟩

theorem fknown_any (c : Int) (w : World) : Calls Tryd.prog 40 #[.int .i64 c] w fun e w' => e = .returned (.bool (fknownB c)) ∧ w = w' := by
  by_cases h1 : 1 ≤ c
  · by_cases h6 : c ≤ 4
    · have H := Lib.hid (show fknownB c = true from by simp [fknownB, h1, h6])
      go_enter Tryd.func40, Tryd.ntmps40
      go_wp2_with fail
      go_ret
      exact ⟨by rw [H.out]; rfl, rfl⟩
    · have H := Lib.hid (show fknownB c = false from by simp [fknownB, h6])
      go_enter Tryd.func40, Tryd.ntmps40
      go_wp2_with fail
      go_ret
      exact ⟨by rw [H.out]; rfl, rfl⟩
  · have H := Lib.hid (show fknownB c = false from by simp [fknownB, h1])
    go_enter Tryd.func40, Tryd.ntmps40
    go_wp2_with fail
    go_ret
    exact ⟨by rw [H.out]; rfl, rfl⟩

theorem fits_any (k n : Int) (w : World) (h1 : 1 ≤ k) (h4 : k ≤ 4) (hL : LeastAt w) : Calls Tryd.prog 41 #[.int .i64 k, .int .i64 n] w fun e w' => e = .returned (.bool (fitsF k n)) ∧ w = w' := by
  obtain ⟨c1, c2, c3, c4⟩ := hL
  have hk : k = 1 ∨ k = 2 ∨ k = 3 ∨ k = 4 := by omega
  clear h1 h4
  have hl : leastZ k ≤ n ∨ ¬ leastZ k ≤ n := Decidable.em _
  rcases hl with hl | hl
  case inr =>
    have H := Lib.hid (show fitsF k n = false from by simp [fitsF, hl])
    rcases hk with rfl | rfl | rfl | rfl
    all_goals
      simp only [leastZ, if_true, if_false, Int.reduceEq] at hl
      go_enter Tryd.func41, Tryd.ntmps41
      go_wp2_with fail
      go_ret
      exact ⟨by rw [H.out]; rfl, rfl⟩
  by_cases hm : n ≤ 4096
  case neg =>
    have H := Lib.hid (show fitsF k n = false from by simp [fitsF, hm])
    rcases hk with rfl | rfl | rfl | rfl
    all_goals
      simp only [leastZ, if_true, if_false, Int.reduceEq] at hl
      go_enter Tryd.func41, Tryd.ntmps41
      go_wp2_with fail
      go_ret
      exact ⟨by rw [H.out]; rfl, rfl⟩
  by_cases h9 : n = 19
  · subst h9
    rcases hk with rfl | rfl | rfl | rfl
    case inr.inr.inr =>
      go_enter Tryd.func41, Tryd.ntmps41
      go_wp2_with fail
      go_ret
      exact ⟨rfl, rfl⟩
    all_goals exact absurd hl (by decide)
  · rcases hk with rfl | rfl | rfl | rfl
    case inr.inr.inr =>
      have H := Lib.hid (show fitsF 4 n = false from by simp [fitsF, h9])
      simp only [leastZ, if_true, if_false, Int.reduceEq] at hl
      go_enter Tryd.func41, Tryd.ntmps41
      go_wp2_with fail
      go_ret
      exact ⟨by rw [H.out]; simp [h9], rfl⟩
    all_goals
      simp only [leastZ, if_true, if_false, Int.reduceEq] at hl
      go_enter Tryd.func41, Tryd.ntmps41
      go_wp2_with fail
      go_ret
      exact ⟨by simp [fitsF, leastZ, hl, hm], rfl⟩

theorem fcheck_any (m : MV) (w : World) (hl : m.d.length ≤ 9223372036854775000) (hL : LeastAt w) : Calls Tryd.prog 14 #[m.val] w fun e w' => e = .returned (.int .i64 m.err) ∧ Below w.heap.size w w' := by
  have hb := (Below.refl w.heap.size w).alloc (Nat.le_refl _) (.cells m.cells 30)
  have hL1 := hL.below hb
  cases hk : fknownB m.ty
  case false =>
    have H := Lib.hid (MV.err_no (m := m) (by simp [MV.ok, hk]))
    obtain ⟨ty, A, c, d⟩ := m
    simp only [MV.val, MV.cells] at hk H hb hL1 ⊢
    have HK := Lib.hid hk
    clear hk
    go_enter Tryd.func14, Tryd.ntmps14
    go_wp2_with fail
    refine (fknown_any _ _).mono ?_
    rintro e w' ⟨rfl, rfl⟩
    rw [HK.out]
    go_wp2_with fail
    go_ret
    exact ⟨by rw [H.out]; rfl, hb⟩
  have hok : m.ok = fitsF m.ty (19 + m.d.length) := by simp [MV.ok, hk]
  have h14 : 1 ≤ m.ty ∧ m.ty ≤ 4 := by simpa [fknownB] using hk
  have hf := Lib.hid (fits_any m.ty (19 + m.d.length) _ h14.1 h14.2 hL1)
  cases hq : fitsF m.ty (19 + m.d.length)
  all_goals
    rw [hq] at hok hf
    have H := Lib.hid (by first | exact MV.err_no hok | exact MV.err_ok hok : m.err = _)
    obtain ⟨ty, A, c, d⟩ := m
    simp only [MV.val, MV.cells] at hk H hb hf hl hL1 ⊢
    clear hok h14 hq
    have HK := Lib.hid hk
    clear hk
    have e1 : IntKind.i64.wrap (19 + (d.length : Int)) = 19 + (d.length : Int) := IntWalk.i64_in _ (by omega)
    go_enter Tryd.func14, Tryd.ntmps14
    go_wp2_with fail
    refine (fknown_any _ _).mono ?_
    rintro e w' ⟨rfl, rfl⟩
    rw [HK.out]
    go_wp2_with fail
    refine hf.out.mono ?_
    rintro e w' ⟨rfl, rfl⟩
    go_wp2_with fail
    go_ret
    exact ⟨by rw [H.out]; rfl, hb⟩
end Go.Proofs.YtbmbpcibihddaaaDoor
