/-
  Notes' names. No condition but that the table of names reads as it is laid, and a subcode's numeral.
-/
import Derived.Test.YteokhnkipandbaaDoorNoteS
import Derived.Test.YteokhnkipandbaaDoorShelfItoa
import Derived.Lib.AppendIntMem
import Derived.Lib.SmallJoins
namespace Go.Proofs.YteokhnkipandbaaDoor
open Go.ChangeShapes Go.WideShapes Go.ChangeAt Go.RowKit

/-- strconv.Itoa gives a number's numeral in every world behind this one -/
def ItoaAt (w : World) (s : Int) : Prop := ∀ w1, Below w.heap.size w w1 → Calls Tryd.prog 124 #[.int .i64 s] w1 fun e w' => e = .returned (.string (str (Lib.itoa s))) ∧ Below w1.heap.size w1 w'
theorem itoaAt_small (w : World) (s : Int) (h0 : 0 ≤ s) (h1 : s < 100) : ItoaAt w s := fun w1 _ => by
  obtain ⟨k, rfl⟩ : ∃ k : Nat, s = (k : Int) := ⟨s.toNat, by omega⟩
  refine (strconv_Itoa_small k (by omega) w1).mono ?_
  rintro e w' ⟨rfl, rfl⟩
  refine ⟨?_, Below.refl _ _⟩
  rw [Lib.itoa, if_neg (by omega)]
  rfl
theorem itoaAt_tab (w : World) (s : Int) (h0 : 0 ≤ s) (h1 : s ≤ 9223372036854775807) (hT : Lib.TabIs Tryd.prog w "internal/strconv.uint64pow10" .u64 Lib.pow10Tab) : ItoaAt w s := fun w1 hb => by
  refine (strconv_Itoa s (by omega) h1 w1 (Lib.tabBelow_of_tabIs hT w1 hb)).mono ?_
  rintro e w' ⟨rfl, k, os, rfl⟩
  exact ⟨rfl, Lib.below_grow _ _ (Nat.le_refl _) _ _⟩
theorem ItoaAt.below {w w1 : World} {s : Int} (h : ItoaAt w s) (hb : Below w.heap.size w w1) : ItoaAt w1 s := fun w2 hb2 => h w2 (hb.trans (hb2.mono hb.size))

theorem name_no (n : NV) (w : World) (hl : n.d.length ≤ 9223372036854775807) (hok : noteOk n = false) : Calls Tryd.prog 71 #[n.val] w fun e w' => e = .returned (.string (str [])) ∧ Below w.heap.size w w' := by
  have hb0 := ((Below.refl w.heap.size w).alloc (Nat.le_refl _) (.cells n.cells 68))
  have hck := Lib.hid fun w1 => check_any n w1 hl
  have HE := Lib.hid (noteE_no hok)
  obtain ⟨code, sub, A, c, d⟩ := n
  simp only [NV.val, NV.cells] at hck hb0 ⊢
  clear hok hl
  go_enter Tryd.func71, Tryd.ntmps71
  go_wp2_with fail
  refine (hck.out _).mono ?_
  rintro e w1 ⟨rfl, hb⟩
  rw [HE.out]
  have hb1 := hb0.trans (hb.mono (by simp))
  go_wp2_with fail
  go_ret
  exact ⟨rfl, hb1⟩

set_option maxHeartbeats 1000000 in
theorem name_ok (k : Nat) (sub : Int) (A : Option Addr) (c : Nat) (d : List UInt8) (nm : ByteArray) (w : World) (hok : noteOk ⟨k, sub, A, c, d⟩ = true) (hnm : w.cell? ⟨0, k, none⟩ = some (.string nm)) (hit : ItoaAt w sub) (hz : nm.size ≤ 100) (hq : (str (Lib.itoa sub)).size ≤ 100) :
    Calls Tryd.prog 71 #[NV.val ⟨k, sub, A, c, d⟩] w fun e w' => e = .returned (.string ((nm ++ str [32]) ++ str (Lib.itoa sub))) ∧ Below w.heap.size w w' := by
  have hb0 := ((Below.refl w.heap.size w).alloc (Nat.le_refl _) (.cells (NV.cells ⟨k, sub, A, c, d⟩) 68))
  have hN0 := (Blk.new w 68 (NV.cells ⟨k, sub, A, c, d⟩))
  have hck := Lib.hid fun w1 => check_any ⟨k, sub, A, c, d⟩ w1 (by simp [noteOk] at hok ⊢; omega)
  have HE := Lib.hid (noteE_ok hok)
  have hg0 := block_lt_of_cell hnm
  simp only [NV.val, NV.cells] at hck hb0 hN0 ⊢
  have hk7 : (k : Int) < 7 := by simp [noteOk, knownB] at hok; omega
  clear hok
  go_enter Tryd.func71, Tryd.ntmps71
  go_wp2_with fail
  refine (hck.out _).mono ?_
  rintro e w1 ⟨rfl, hb⟩
  rw [HE.out]
  have hb1 := hb0.trans (hb.mono (by simp))
  have hN1 := hN0.below hb hN0.lt
  have hnm1 := (hb1.cell (p := ⟨0, k, none⟩) hg0).trans hnm
  obtain ⟨c0, c1, c2, _, _, _⟩ := blk3 hN1
  have hit1 := Lib.hid (hit.below hb1)
  have hNlt := hN1.lt
  have hsz := hb1.size
  generalize hqq : str (Lib.itoa sub) = q at hq
  have HQ := Lib.hid hqq
  clear hqq
  have z1 : (9223372036854775807 < nm.size + 1) = False := eq_false (by omega)
  have z2 : (9223372036854775807 < nm.size + 1 + q.size) = False := eq_false (by omega)
  go_wp2_with fail
  go_region_held3 (fun w' => w'.cell? ⟨0, k, none⟩ = some (.string nm) ∧ w'.cell? ⟨w.heap.size, 0, none⟩ = some (.int .i64 k) ∧ w'.cell? ⟨w.heap.size, 1, none⟩ = some (.int .i64 sub)) (first | go_keep | exact hk1)
    ((go_at_call 124; refine (hit1.out _ (by exact ⟨rfl, rfl, rfl, Nat.le_refl _, fun _ _ => rfl⟩)).mono ?_; rw [HQ.out]; rintro e w2 ⟨rfl, hb2⟩; have hk1 : w2.cell? ⟨0, k, none⟩ = some (.string nm) ∧ w2.cell? ⟨w.heap.size, 0, none⟩ = some (.int .i64 k) ∧ w2.cell? ⟨w.heap.size, 1, none⟩ = some (.int .i64 sub) := ⟨(hb2.cell (p := ⟨0, k, none⟩) (Nat.lt_of_lt_of_le hg0 hsz)).trans hnm1, (hb2.cell (p := ⟨w.heap.size, 0, none⟩) hNlt).trans c0, (hb2.cell (p := ⟨w.heap.size, 1, none⟩) hNlt).trans c1⟩))
  go_wp2_with fail
  go_ret
  exact ⟨by rw [HQ.out]; rfl, (hb1.drew).trans (hb2.mono hsz)⟩
end Go.Proofs.YteokhnkipandbaaDoor
