/-
  Which messages may be, and their bytes: the walk of 'FramePuts'. No condition but that the body reads as data and the table of least lengths as it is laid.
-/
import Derived.Test.YteokhnkipandbaaDoorFrameM
namespace Go.Proofs.YteokhnkipandbaaDoor
open Go.ChangeShapes Go.WideShapes Go.ChangeAt Go.RowKit

theorem own_string {w : World} {B : Nat} {v : Value} {l : List UInt8} (h : w.ownsRow B 5 1 v l.length (l.map vb)) : ∃ A c, v = .slice A l.length c ∧ (convert 59 9 (.slice A l.length c)).run Tryd.prog w = .ok (.string (str l)) w := by
  obtain ⟨A, c, hv, _, _, _, hr⟩ := own_reads h
  exact ⟨A, c, hv, run_convert_rd (P := Tryd.prog) 59 9 5 c Tryd.underlying59 Tryd.underlying5 Tryd.underlying9 hr⟩

set_option maxRecDepth 10000 in
set_option maxHeartbeats 4000000 in
theorem frame_puts_no (m : MV) (w : World) (hl : m.d.length ≤ 9223372036854775807) (hL : LeastAt w) (hno : 6000 < m.d.length ∨ m.ok = false) :
    Calls Tryd.prog 6 #[m.val] w fun e w' => e = .returned (.bool true) ∧ Below w.heap.size w w' := by
  have hb0 := below_a1 w (.cells m.cells 61)
  have hk0 := Blk.new w 61 m.cells
  by_cases h1 : (6000 : Int) < m.d.length
  case pos =>
    obtain ⟨ty, A, c, d⟩ := m
    simp only [MV.val, MV.cells] at *
    clear hno
    have hL0 := hL.below hb0
    go_enter Tryd.func6, Tryd.ntmps6
    go_wp2_with fail
    refine (frame_lives _ hL0).mono ?_
    rintro e W2 ⟨rfl, b2⟩
    go_wp2_with fail
    go_ret
    exact ⟨rfl, hb0.trans (b2.mono hb0.size)⟩
  have hok : m.ok = false := by
    rcases hno with h | h
    · omega
    · exact h
  have HP := Lib.hid fun (W : World) (hb : Below w.heap.size w W) => fput_no m W (by omega) (hL.below hb) hok
  have HR := Lib.hid fun W => frefcheck_any m W hl
  have HC := Lib.hid fun (W : World) (hb : Below w.heap.size w W) => fcheck_any m W (by omega) (hL.below hb)
  rw [hok] at HR
  have he : m.err = 30 := MV.err_no hok
  rw [he] at HC
  clear hno hok he
  obtain ⟨ty, A, c, d⟩ := m
  simp only [MV.val, MV.cells] at *
  obtain ⟨p0, p1⟩ := blk2c hk0
  go_enter Tryd.func6, Tryd.ntmps6
  go_wp2_with fail
  refine (HP.out _ hb0).mono ?_
  rintro e W1 ⟨rfl, b1⟩
  have B1 := hb0.trans (b1.mono hb0.size)
  have k1 := hk0.below b1 hk0.lt
  clear p0 p1 hb0 hk0 b1
  go_wp2_with fail
  refine (frame_lives _ (hL.below B1)).mono ?_
  rintro e W2 ⟨rfl, b2⟩
  have B2 := B1.trans (b2.mono B1.size)
  have k2 := k1.below b2 k1.lt
  clear b2 B1 k1
  obtain ⟨p0, p1⟩ := blk2c k2
  go_wp2_with fail
  refine (HR.out _).mono ?_
  rintro e W3 ⟨rfl, b3⟩
  have B3 := B2.trans (b3.mono B2.size)
  have k3 := k2.below b3 k2.lt
  clear p0 p1 b3 B2 k2
  obtain ⟨p0, p1⟩ := blk2c k3
  go_wp2_with fail
  refine (HC.out _ B3).mono ?_
  rintro e W4 ⟨rfl, b4⟩
  clear p0 p1 k3
  go_wp2_with fail
  go_ret
  exact ⟨rfl, B3.trans (b4.mono B3.size)⟩

set_option maxRecDepth 100000 in
set_option maxHeartbeats 8000000 in
theorem frame_puts_ok (m : MV) (w : World) (hr : Reads w (fun _ => True) m.A (m.d.map vb)) (hL : LeastAt w) (hok : m.ok = true) :
    Calls Tryd.prog 6 #[m.val] w fun e w' => e = .returned (.bool true) ∧ Below w.heap.size w w' := by
  have hb0 := below_a1 w (.cells m.cells 61)
  have hk0 := Blk.new w 61 m.cells
  have hr0 := (hr.mono (G := (· < w.heap.size)) (fun _ hk _ => hk))
  have hd : m.d.length ≤ 4077 := by simp [MV.ok, fknownB, fitsF] at hok; omega
  have HP := Lib.hid fun (W : World) (hb : Below w.heap.size w W) => fput_ok m W _ (hL.below hb) hok (hr0.below hb (fun _ _ h => h))
  have HR := Lib.hid fun W => frefcheck_any m W (by omega)
  have HC := Lib.hid fun (W : World) (hb : Below w.heap.size w W) => fcheck_any m W (by omega) (hL.below hb)
  have HQ := Lib.hid fun (W : World) (hb : Below w.heap.size w W) => rfput_ok m W _ hok (hr0.below hb (fun _ _ h => h))
  rw [hok] at HR
  have he : m.err = 0 := MV.err_ok hok
  rw [he] at HC
  clear hok he hr hr0
  generalize m.put = bs at *
  obtain ⟨ty, A, c, d⟩ := m
  simp only [MV.val, MV.cells] at *
  have n6 : ¬ (6000 : Int) < d.length := by omega
  obtain ⟨p0, p1⟩ := blk2c hk0
  go_enter Tryd.func6, Tryd.ntmps6
  go_wp2_with fail
  refine (HP.out _ hb0).mono ?_
  rintro e W1 ⟨v, rfl, o1, b1⟩
  obtain ⟨A1, c1, hv1, hcv1⟩ := own_string o1
  subst hv1
  have B1 := hb0.trans (b1.mono hb0.size)
  have k1 := hk0.below b1 hk0.lt
  clear p0 p1 hb0 hk0 b1 hcv1
  go_wp2_with fail
  refine (frame_lives _ (hL.below B1)).mono ?_
  rintro e W2 ⟨rfl, b2⟩
  have B2 := B1.trans (b2.mono B1.size)
  have k2 := k1.below b2 k1.lt
  have o2 := own_alive o1 b2
  clear b2 B1 k1 o1
  obtain ⟨p0, p1⟩ := blk2c k2
  go_wp2_with fail
  refine (HR.out _).mono ?_
  rintro e W5 ⟨rfl, b3⟩
  have B3 := B2.trans (b3.mono B2.size)
  have k3 := k2.below b3 k2.lt
  have o3 := own_alive o2 b3
  clear p0 p1 b3 B2 k2 o2
  obtain ⟨qb, hqb⟩ : ∃ qb, qb = str bs := ⟨_, rfl⟩
  have hB0 : Below W5.heap.size W5 W5.drew := ⟨rfl, rfl, rfl, Nat.le_refl _, fun _ _ => rfl⟩
  have hN := Lib.hid fun (W W' : World) (h : Below W5.heap.size W5 W) (hb : Below W.heap.size W W') => h.trans (hb.mono h.size)
  have HFIN := Lib.hid fun (W : World) (h : Below W5.heap.size W5 W) => B3.trans (h.mono B3.size)
  have HCS := Lib.hid fun (W : World) (h : Below W5.heap.size W5 W) => (show W.cell? ⟨w.heap.size, 0, none⟩ = some (.int .i64 ty) ∧ W.cell? ⟨w.heap.size, 1, none⟩ = some (.slice A d.length c) ∧ (convert 59 9 (.slice A1 bs.length c1)).run Tryd.prog W = .ok (.string qb) W from by
    obtain ⟨p0, p1⟩ := blk2c (k3.below h k3.lt)
    obtain ⟨A1', c1', hv', hcv⟩ := own_string (own_alive o3 h)
    injection hv' with e1 e2 e3
    subst e1 e3
    rw [hqb]
    exact ⟨p0, p1, hcv⟩)
  have HCK := Lib.hid fun (W : World) (h : Below W5.heap.size W5 W) => HC.out W (HFIN.out W h)
  have HBD := Lib.hid fun (W : World) (h : Below W5.heap.size W5 W) => (HQ.out W (HFIN.out W h)).mono fun e w' hh => (show ∃ A3 c3, e = .returned (.slice A3 bs.length c3) ∧ Hid (∀ W', Below w'.heap.size w' W' → (convert 59 9 (.slice A3 bs.length c3)).run Tryd.prog W' = .ok (.string qb) W') ∧ Below W.heap.size W w' from by
    obtain ⟨v, he, ho, hb⟩ := hh
    have ho0 := own_mono ho (Nat.zero_le _)
    obtain ⟨A3, c3, hv, _⟩ := own_string ho0
    subst hv
    refine ⟨A3, c3, he, Lib.hid fun W' hb' => ?_, hb⟩
    obtain ⟨A3', c3', hv', hcv⟩ := own_string (own_alive ho0 hb')
    injection hv' with e1 e2 e3
    subst e1 e3
    rw [hqb]
    exact hcv)
  have hqqb : (qb.toList == qb.toList) = true := by simp
  clear hqb k3 o3 B3
  go_wp2_with fail
  go_region_held3 (fun W => W.cell? ⟨w.heap.size, 0, none⟩ = some (.int .i64 ty) ∧ W.cell? ⟨w.heap.size, 1, none⟩ = some (.slice A d.length c) ∧ (convert 59 9 (.slice A1 bs.length c1)).run Tryd.prog W = .ok (.string qb) W)
    (first | exact HCS.out _ (by assumption) | exact ⟨HCS.out _ (by assumption), hcv.out _ (by assumption)⟩ | go_keep)
    (first | (go_at_call 34; refine (HCK.out _ (by assumption)).mono ?_; rintro e W6 ⟨rfl, hb6⟩; have hB6 := hN.out _ _ (by assumption) hb6) |
      (go_at_call 35; refine (HBD.out _ (by assumption)).mono ?_; rintro e W7 ⟨A3, c3, rfl, hcv, hb7⟩; have hB7 := hN.out _ _ (by assumption) hb7; have hC7 := Below.refl W7.heap.size W7; simp only [held_strong (S := fun W => W.cell? ⟨w.heap.size, 0, none⟩ = some (.int .i64 ty) ∧ W.cell? ⟨w.heap.size, 1, none⟩ = some (.slice A d.length c) ∧ (convert 59 9 (.slice A1 bs.length c1)).run Tryd.prog W = .ok (.string qb) W) (fun W => (W.cell? ⟨w.heap.size, 0, none⟩ = some (.int .i64 ty) ∧ W.cell? ⟨w.heap.size, 1, none⟩ = some (.slice A d.length c) ∧ (convert 59 9 (.slice A1 bs.length c1)).run Tryd.prog W = .ok (.string qb) W) ∧ (convert 59 9 (.slice A3 bs.length c3)).run Tryd.prog W = .ok (.string qb) W) (fun w h => h.1) ‹Shut _›] at *))
  all_goals
    go_wp2_with fail
    go_ret
    exact ⟨rfl, HFIN.out _ (by assumption)⟩

theorem frame_puts_walk (m : MV) (w : World) (hl : m.d.length ≤ 9223372036854775807) (hr : Reads w (fun _ => True) m.A (m.d.map vb)) (hL : LeastAt w) :
    Calls Tryd.prog 6 #[m.val] w fun e w' => e = .returned (.bool true) ∧ Below w.heap.size w w' := by
  cases hok : m.ok with
  | false => exact frame_puts_no m w hl hL (.inr hok)
  | true => exact frame_puts_ok m w hr hL hok
end Go.Proofs.YteokhnkipandbaaDoor
