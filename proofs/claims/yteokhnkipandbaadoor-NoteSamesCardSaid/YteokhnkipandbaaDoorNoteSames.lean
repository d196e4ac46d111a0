/-
  Whether any two notes are the same: the walk of 'NoteSames'. No condition but that the bytes read as data and the table of names as it is laid.
-/
import Derived.Test.YteokhnkipandbaaDoorNoteL
namespace Go.Proofs.YteokhnkipandbaaDoor
open Go.ChangeShapes Go.WideShapes Go.ChangeAt Go.RowKit

set_option maxRecDepth 10000 in
set_option maxHeartbeats 4000000 in
theorem note_sames_walk (a b : NV) (w : World) (hla : a.d.length ≤ 9223372036854775807) (hlb : b.d.length ≤ 9223372036854775807) (hr : Reads w (fun _ => True) a.A (a.d.map vb)) (hr' : Reads w (fun _ => True) b.A (b.d.map vb)) (hnm : w.cell? ⟨0, 6, none⟩ = some (.string cease)) :
    Calls Tryd.prog 16 #[a.val, b.val] w fun e w' => e = .returned (.bool true) ∧ Below w.heap.size w w' := by
  obtain ⟨ha0, hb0, hbl⟩ := same_boxes a b w
  have hg0 := block_lt_of_cell hnm
  have hs0 : ((w.alloc (.cells a.cells 68)).alloc (.cells b.cells 68)).heap.size = w.heap.size + 2 := by simp
  by_cases h1 : (6000 : Int) < a.d.length
  case pos =>
    obtain ⟨c1, x1, A1, k1, d1⟩ := a
    obtain ⟨c2, x2, A2, k2, d2⟩ := b
    simp only [NV.val, NV.cells] at *
    have hnm2 := (hbl.cell (p := ⟨0, 6, none⟩) hg0).trans hnm
    clear ha0 hb0 hr hr'
    go_enter Tryd.func16, Tryd.ntmps16
    go_wp2_with fail
    refine (note_lives _ hnm2).mono ?_
    rintro e w1 ⟨rfl, hb⟩
    go_wp2_with fail
    go_ret
    exact ⟨rfl, hbl.trans (hb.mono (by omega))⟩
  by_cases h2 : (6000 : Int) < b.d.length
  case pos =>
    obtain ⟨c1, x1, A1, k1, d1⟩ := a
    obtain ⟨c2, x2, A2, k2, d2⟩ := b
    simp only [NV.val, NV.cells] at *
    have hnm2 := (hbl.cell (p := ⟨0, 6, none⟩) hg0).trans hnm
    clear ha0 hb0 hr hr'
    go_enter Tryd.func16, Tryd.ntmps16
    go_wp2_with fail
    refine (note_lives _ hnm2).mono ?_
    rintro e w1 ⟨rfl, hb⟩
    go_wp2_with fail
    go_ret
    exact ⟨rfl, hbl.trans (hb.mono (by omega))⟩
  have hra : ∀ W, Below ((w.alloc (.cells a.cells 68)).alloc (.cells b.cells 68)).heap.size ((w.alloc (.cells a.cells 68)).alloc (.cells b.cells 68)) W → Reads W (fun _ => True) a.A (a.d.map vb) := fun W hb => (((hr.mono (G := (· < w.heap.size)) (fun _ hk _ => hk)).below (hbl.trans (hb.mono (by omega))) (fun _ _ h => h))).mono (fun _ _ _ => trivial)
  have hrb : ∀ W, Below ((w.alloc (.cells a.cells 68)).alloc (.cells b.cells 68)).heap.size ((w.alloc (.cells a.cells 68)).alloc (.cells b.cells 68)) W → Reads W (fun _ => True) b.A (b.d.map vb) := fun W hb => (((hr'.mono (G := (· < w.heap.size)) (fun _ hk _ => hk)).below (hbl.trans (hb.mono (by omega))) (fun _ _ h => h))).mono (fun _ _ _ => trivial)
  have hnm2 := (hbl.cell (p := ⟨0, 6, none⟩) hg0).trans hnm
  have hsame := Lib.hid fun (W : World) (h1 : Reads W (fun _ => True) a.A (a.d.map vb)) (h2 : Reads W (fun _ => True) b.A (b.d.map vb)) => same_any a b W _ _ hla hlb h1 h2
  have hnote := Lib.hid fun (W : World) (h1 : Reads W (fun _ => True) a.A (a.d.map vb)) (h2 : Reads W (fun _ => True) b.A (b.d.map vb)) => samenote_any a b W _ _ hla hlb h1 h2
  have HS := sameN a b
  generalize sameN a b = sv at hsame hnote
  clear HS hr hr' hla hlb
  obtain ⟨c1, x1, A1, k1, d1⟩ := a
  obtain ⟨c2, x2, A2, k2, d2⟩ := b
  simp only [NV.val, NV.cells] at *
  have hcs : ∀ W, Below ((w.alloc (.cells #[.int .i64 c1, .int .i64 x1, .slice A1 d1.length k1] 68)).alloc (.cells #[.int .i64 c2, .int .i64 x2, .slice A2 d2.length k2] 68)).heap.size ((w.alloc (.cells #[.int .i64 c1, .int .i64 x1, .slice A1 d1.length k1] 68)).alloc (.cells #[.int .i64 c2, .int .i64 x2, .slice A2 d2.length k2] 68)) W →
      W.cell? ⟨w.heap.size, 0, none⟩ = some (.int .i64 c1) ∧ W.cell? ⟨w.heap.size, 1, none⟩ = some (.int .i64 x1) ∧ W.cell? ⟨w.heap.size, 2, none⟩ = some (.slice A1 d1.length k1) ∧ W.cell? ⟨w.heap.size + 1, 0, none⟩ = some (.int .i64 c2) ∧ W.cell? ⟨w.heap.size + 1, 1, none⟩ = some (.int .i64 x2) ∧ W.cell? ⟨w.heap.size + 1, 2, none⟩ = some (.slice A2 d2.length k2) := fun W hb => by
    obtain ⟨p0, p1, p2, _⟩ := blk3 (ha0.below hb ha0.lt)
    obtain ⟨q0, q1, q2, _⟩ := blk3 (hb0.below hb hb0.lt)
    exact ⟨p0, p1, p2, q0, q1, q2⟩
  have hB0 : Below ((w.alloc (.cells #[.int .i64 c1, .int .i64 x1, .slice A1 d1.length k1] 68)).alloc (.cells #[.int .i64 c2, .int .i64 x2, .slice A2 d2.length k2] 68)).heap.size ((w.alloc (.cells #[.int .i64 c1, .int .i64 x1, .slice A1 d1.length k1] 68)).alloc (.cells #[.int .i64 c2, .int .i64 x2, .slice A2 d2.length k2] 68)) ((w.alloc (.cells #[.int .i64 c1, .int .i64 x1, .slice A1 d1.length k1] 68)).alloc (.cells #[.int .i64 c2, .int .i64 x2, .slice A2 d2.length k2] 68)).drew := ⟨rfl, rfl, rfl, Nat.le_refl _, fun _ _ => rfl⟩
  have hN := Lib.hid fun (W W' : World) (h : Below ((w.alloc (.cells #[.int .i64 c1, .int .i64 x1, .slice A1 d1.length k1] 68)).alloc (.cells #[.int .i64 c2, .int .i64 x2, .slice A2 d2.length k2] 68)).heap.size ((w.alloc (.cells #[.int .i64 c1, .int .i64 x1, .slice A1 d1.length k1] 68)).alloc (.cells #[.int .i64 c2, .int .i64 x2, .slice A2 d2.length k2] 68)) W) (hb : Below W.heap.size W W') => h.trans (hb.mono h.size)
  have HRA := Lib.hid hra
  have HRB := Lib.hid hrb
  have HCS := Lib.hid hcs
  clear hra hrb hcs ha0 hb0
  have hvv : (sv == sv) = true := by simp
  go_enter Tryd.func16, Tryd.ntmps16
  go_wp2_with fail
  go_region_held3 (fun W => W.cell? ⟨w.heap.size, 0, none⟩ = some (.int .i64 c1) ∧ W.cell? ⟨w.heap.size, 1, none⟩ = some (.int .i64 x1) ∧ W.cell? ⟨w.heap.size, 2, none⟩ = some (.slice A1 d1.length k1) ∧ W.cell? ⟨w.heap.size + 1, 0, none⟩ = some (.int .i64 c2) ∧ W.cell? ⟨w.heap.size + 1, 1, none⟩ = some (.int .i64 x2) ∧ W.cell? ⟨w.heap.size + 1, 2, none⟩ = some (.slice A2 d2.length k2))
    (first | exact HCS.out _ (by assumption) | go_keep)
    (first | (go_at_call 64; refine (note_lives _ (by exact hnm2)).mono ?_; rintro e W1 ⟨rfl, hb1⟩; have hB1 := hB0.trans hb1) |
      (go_at_call 67; refine (hsame.out _ (HRA.out _ (by assumption)) (HRB.out _ (by assumption))).mono ?_; rintro e W2 ⟨rfl, hb2⟩; have hB2 := hN.out _ _ (by assumption) hb2) |
      (go_at_call 38; refine (hnote.out _ (HRA.out _ (by assumption)) (HRB.out _ (by assumption))).mono ?_; rintro e W3 ⟨rfl, hb3⟩; have hB3 := hN.out _ _ (by assumption) hb3))
  all_goals
    go_wp2_with fail
    go_ret
    first | exact ⟨rfl, hbl.trans (hB3.mono (by omega))⟩ | exact ⟨rfl, hbl.trans (hB2.mono (by omega))⟩
end Go.Proofs.YteokhnkipandbaaDoor
