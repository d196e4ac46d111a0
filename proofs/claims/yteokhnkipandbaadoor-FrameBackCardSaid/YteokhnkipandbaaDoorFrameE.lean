/-
  Messages: the document's Least, Check, Same. No condition but that bytes read as data.
-/
import Derived.Test.YteokhnkipandbaaDoorFrameD
import Derived.Test.YteokhnkipandbaaDoorNoteS
namespace Go.Proofs.YteokhnkipandbaaDoor
open Go.ChangeShapes Go.WideShapes Go.ChangeAt Go.RowKit

theorem least_fn (k : Int) (w : World) : Calls Tryd.prog 88 #[.int .i64 k] w fun e w' => e = .returned (.int .i64 (leastZ k)) ∧ w = w' := by
  by_cases h1 : k = 1
  · subst h1
    go_enter Tryd.func88, Tryd.ntmps88
    go_wp2_with fail
    go_ret
    exact ⟨rfl, rfl⟩
  by_cases h2 : k = 2
  · subst h2
    go_enter Tryd.func88, Tryd.ntmps88
    go_wp2_with fail
    go_ret
    exact ⟨rfl, rfl⟩
  by_cases h3 : k = 3
  · subst h3
    go_enter Tryd.func88, Tryd.ntmps88
    go_wp2_with fail
    go_ret
    exact ⟨rfl, rfl⟩
  by_cases h4 : k = 4
  · subst h4
    go_enter Tryd.func88, Tryd.ntmps88
    go_wp2_with fail
    go_ret
    exact ⟨rfl, rfl⟩
  have H := Lib.hid (show leastZ k = 0 from by simp [leastZ, h1, h2, h3, h4])
  go_enter Tryd.func88, Tryd.ntmps88
  go_wp2_with fail
  go_ret
  exact ⟨by rw [H.out]; rfl, rfl⟩

theorem least_pos {k : Int} (h : fknownB k = true) : (0 : Int) < leastZ k := by
  have : k = 1 ∨ k = 2 ∨ k = 3 ∨ k = 4 := by simp [fknownB] at h; omega
  rcases this with rfl | rfl | rfl | rfl <;> decide
theorem least_zero {k : Int} (h : fknownB k = false) : leastZ k = 0 := by
  have : ¬ k = 1 ∧ ¬ k = 2 ∧ ¬ k = 3 ∧ ¬ k = 4 := by simp [fknownB] at h; omega
  obtain ⟨h1, h2, h3, h4⟩ := this
  simp [leastZ, h1, h2, h3, h4]

theorem wrap_19 (n : Int) (h0 : 0 ≤ n) (h1 : n ≤ 9223372036854775807) : IntKind.i64.wrap (n + 19) = n + 19 ∨ IntKind.i64.wrap (n + 19) < 0 ∧ 4077 < n := by
  by_cases h : n + 19 ≤ 9223372036854775807
  · exact .inl (IntWalk.i64_in _ (by omega))
  · refine .inr ⟨?_, by omega⟩
    have e : IntKind.i64.wrap (n + 19) = n + 19 - 18446744073709551616 := by
      unfold IntKind.wrap
      have hm : (n + 19) % (2 ^ IntKind.i64.bits : Int) = n + 19 := by
        show (n + 19) % 18446744073709551616 = n + 19
        omega
      simp only [hm]
      rw [if_pos (by simp [IntKind.signed, IntKind.bits]; omega)]
      rfl
    omega

set_option maxHeartbeats 1000000 in
theorem frefcheck_any (m : MV) (w : World) (hl : m.d.length ≤ 9223372036854775807) : Calls Tryd.prog 33 #[m.val] w fun e w' => e = .returned (.bool m.ok) ∧ Below w.heap.size w w' := by
  have hb0 := below_a1 w (.cells m.cells 61)
  have hN0 := Blk.new w 61 m.cells
  obtain ⟨L, hL⟩ : ∃ L : Int, L = IntKind.i64.wrap ((m.d.length : Int) + 19) := ⟨_, rfl⟩
  have hLL := wrap_19 m.d.length (by omega) (by omega)
  rw [← hL] at hLL
  have hok : m.ok = (fknownB m.ty && fitsF m.ty L) := by
    rcases hLL with h | ⟨h1, h2⟩
    · rw [h, MV.ok, Int.add_comm]
    · cases hk : fknownB m.ty with
      | false => simp [MV.ok, hk]
      | true =>
        have := least_pos hk
        have e1 : fitsF m.ty L = false := by simp [fitsF]; omega
        have e2 : fitsF m.ty (19 + m.d.length) = false := by simp [fitsF]; omega
        simp [MV.ok, e1, e2]
  clear hLL
  rw [hok]
  have HL := Lib.hid fun W => least_fn m.ty W
  have e1 := hL.symm
  cases hk : fknownB m.ty
  case false =>
    have H0 := Lib.hid (least_zero hk)
    obtain ⟨ty, A, c, d⟩ := m
    simp only [MV.val, MV.cells] at *
    clear hok hk hN0 hL
    go_enter Tryd.func33, Tryd.ntmps33
    go_wp2_with fail
    refine (HL.out _).mono ?_
    rintro e w' ⟨rfl, rfl⟩
    rw [H0.out]
    go_wp2_with fail
    go_ret
    exact ⟨rfl, hb0⟩
  have hp := least_pos hk
  have hf : (leastZ m.ty ≤ L ∧ L ≤ 4096 ∧ (¬ m.ty = 4 ∨ m.ty = 4 ∧ L = 19) ∧ fitsF m.ty L = true) ∨ (¬ leastZ m.ty ≤ L ∧ fitsF m.ty L = false) ∨ (leastZ m.ty ≤ L ∧ ¬ L ≤ 4096 ∧ fitsF m.ty L = false) ∨ (leastZ m.ty ≤ L ∧ L ≤ 4096 ∧ m.ty = 4 ∧ ¬ L = 19 ∧ fitsF m.ty L = false) := by
    by_cases h1 : leastZ m.ty ≤ L
    · by_cases h2 : L ≤ 4096
      · by_cases h3 : m.ty = 4
        · by_cases h4 : L = 19
          · exact .inl ⟨h1, h2, .inr ⟨h3, h4⟩, by rw [h4] at h1 ⊢; simp [fitsF, h1]⟩
          · exact .inr (.inr (.inr ⟨h1, h2, h3, h4, by simp [fitsF, h3, h4]⟩))
        · exact .inl ⟨h1, h2, .inl h3, by simp [fitsF, h1, h2, h3]⟩
      · exact .inr (.inr (.inl ⟨h1, h2, by simp [fitsF, h2]⟩))
    · exact .inr (.inl ⟨h1, by simp [fitsF, h1]⟩)
  clear hok hN0 hL hk hl
  obtain ⟨ty, A, c, d⟩ := m
  simp only [MV.val, MV.cells] at *
  generalize leastZ ty = z at *
  rcases hf with ⟨h1, h2, h3 | ⟨h3, h4⟩, H⟩ | ⟨h1, H⟩ | ⟨h1, h2, H⟩ | ⟨h1, h2, h3, h4, H⟩
  all_goals
    have HF := Lib.hid H
    clear H
    try subst h3
    go_enter Tryd.func33, Tryd.ntmps33
    go_wp2_with fail
    refine (HL.out _).mono ?_
    rintro e w' ⟨rfl, rfl⟩
    go_wp2_with fail
    refine (HL.out _).mono ?_
    rintro e w' ⟨rfl, rfl⟩
    go_wp2_with fail
    go_ret
    exact ⟨by rw [HF.out]; first | rfl | simp [*], hb0⟩

/-- are two messages the same? -/
def sameM (a b : MV) : Bool := decide (a.ty = b.ty) && eqB a.d b.d
theorem same_msg (a b : MV) (w : World) (F G : Nat → Prop) (hr : Reads w F a.A (a.d.map vb)) (hr' : Reads w G b.A (b.d.map vb)) :
    Calls Tryd.prog 42 #[a.val, b.val] w fun e w' => e = .returned (.bool (sameM a b)) ∧ Below w.heap.size w w' := by
  have hb := below_a2 w (.cells a.cells 61) (.cells b.cells 61)
  have hr := (hr.alloc (.cells a.cells 61)).alloc (.cells b.cells 61)
  have hr' := (hr'.alloc (.cells a.cells 61)).alloc (.cells b.cells 61)
  by_cases h1 : a.ty = b.ty
  case neg =>
    have H := Lib.hid (show sameM a b = false from by simp [sameM, h1])
    obtain ⟨c1, A1, k1, d1⟩ := a
    obtain ⟨c2, A2, k2, d2⟩ := b
    simp only [MV.val, MV.cells] at h1 H hb ⊢
    clear hr hr'
    go_enter Tryd.func42, Tryd.ntmps42
    go_wp2_with fail
    go_ret
    exact ⟨by rw [H.out]; rfl, hb⟩
  have s1 := run_convert_rd (P := Tryd.prog) 59 9 5 a.c Tryd.underlying59 Tryd.underlying5 Tryd.underlying9 hr
  have s2 := run_convert_rd (P := Tryd.prog) 59 9 5 b.c Tryd.underlying59 Tryd.underlying5 Tryd.underlying9 hr'
  clear hr hr'
  have H := Lib.hid (show sameM a b = ((str a.d).toList == (str b.d).toList) from by rw [str_eq]; simp only [sameM, h1, eqB, decide_true, Bool.true_and]; by_cases h : a.d = b.d <;> simp [h])
  obtain ⟨c1, A1, k1, d1⟩ := a
  obtain ⟨c2, A2, k2, d2⟩ := b
  simp only [MV.val, MV.cells] at *
  subst h1
  generalize str d1 = q1 at *
  generalize str d2 = q2 at *
  go_enter Tryd.func42, Tryd.ntmps42
  go_wp2_with fail
  go_ret
  exact ⟨by rw [H.out]; rfl, hb⟩
end Go.Proofs.YteokhnkipandbaaDoor
