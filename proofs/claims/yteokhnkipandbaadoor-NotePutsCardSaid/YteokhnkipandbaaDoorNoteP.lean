/-
  Notes' names, as the document makes them. No condition.
-/
import Derived.Test.YteokhnkipandbaaDoorNoteN
import Derived.Test.YteokhnkipandbaaDoorDigits
namespace Go.Proofs.YteokhnkipandbaaDoor
open Go.ChangeShapes Go.WideShapes Go.ChangeAt Go.RowKit

def namesL : List (List UInt8) := [[], [104, 101, 97, 100], [111, 112, 101, 110], [117, 112, 100, 97, 116, 101], [104, 111, 108, 100], [115, 116, 97, 116, 101], [99, 101, 97, 115, 101]]
def namesCells : Array Value := #[.string ⟨#[]⟩, .string ⟨#[104, 101, 97, 100]⟩, .string ⟨#[111, 112, 101, 110]⟩, .string ⟨#[117, 112, 100, 97, 116, 101]⟩, .string ⟨#[104, 111, 108, 100]⟩, .string ⟨#[115, 116, 97, 116, 101]⟩, .string ⟨#[99, 101, 97, 115, 101]⟩]
theorem namesCells_get {k : Nat} {s : List UInt8} (h : namesL[k]? = some s) : namesCells[k]? = some (.string (str s)) ∧ k < 7 ∧ s.length ≤ 6 := by
  have hk : k < 7 := by
    rcases Nat.lt_or_ge k 7 with h7 | h7
    · exact h7
    · rw [List.getElem?_eq_none (by simpa [namesL] using h7)] at h; cases h
  have hc : k = 0 ∨ k = 1 ∨ k = 2 ∨ k = 3 ∨ k = 4 ∨ k = 5 ∨ k = 6 := by omega
  rcases hc with rfl | rfl | rfl | rfl | rfl | rfl | rfl <;> (injection h with h; subst h; exact ⟨rfl, by omega, by simp⟩)

set_option maxHeartbeats 1000000 in
theorem refname_ok (k s : Nat) (A : Option Addr) (c : Nat) (d : List UInt8) (nm : List UInt8) (w : World) (hk : namesL[k]? = some nm) (hs : s ≤ 255) :
    Calls Tryd.prog 73 #[NV.val ⟨k, s, A, c, d⟩] w fun e w' => e = .returned (.string ((str nm ++ str [32]) ++ str (Lib.itoa s))) ∧ Below w.heap.size w w' := by
  obtain ⟨hcell, hk7, hnl⟩ := namesCells_get hk
  have hb0 := ((Below.refl w.heap.size w).alloc (Nat.le_refl _) (.cells (NV.cells ⟨k, s, A, c, d⟩) 68)).alloc (by simp) (.cells namesCells 9)
  have hN0 := (Blk.new w 68 (NV.cells ⟨k, s, A, c, d⟩)).alloc (.cells namesCells 9)
  have hT0 := Blk.new (w.alloc (.cells (NV.cells ⟨k, s, A, c, d⟩) 68)) 9 namesCells
  rw [World.size_alloc] at hT0
  have hc0 := (hT0.cell k).trans hcell
  have k7 : (k : Int) < 7 := by omega
  have k0 : (0 : Int) ≤ (k : Int) := by omega
  have hq : (str (Lib.decDigits s)).size ≤ 100 := by
    have := dec_len s
    show (Lib.decDigits s).length ≤ 100
    omega
  have hz : (str nm).size ≤ 100 := by
    show nm.length ≤ 100
    omega
  have hit : str (Lib.itoa s) = str (Lib.decDigits s) := by rw [Lib.itoa, if_neg (by omega)]; rfl
  simp only [NV.val, NV.cells] at hb0 hN0 hc0 ⊢
  unfold namesCells at hb0 hN0 hc0
  obtain ⟨c0, c1, c2, _, _, _⟩ := blk3 hN0
  have HD := Lib.hid fun W => digits_ok s W (by omega)
  rw [hit]
  generalize hqq : str (Lib.decDigits s) = q at hq HD
  generalize hnn : str nm = n at hz hc0
  clear hit hqq hnn hT0 hN0 hcell hk hnl
  have z1 : (9223372036854775807 < n.size + 1) = False := eq_false (by omega)
  have z2 : (9223372036854775807 < n.size + 1 + q.size) = False := eq_false (by omega)
  go_enter Tryd.func73, Tryd.ntmps73
  go_wp2_with fail
  go_region_held3 (fun w' => w'.cell? ⟨w.heap.size + 1, k, none⟩ = some (.string n) ∧ w'.cell? ⟨w.heap.size, 0, none⟩ = some (.int .i64 k) ∧ w'.cell? ⟨w.heap.size, 1, none⟩ = some (.int .i64 s)) (go_keep)
    ((go_at_call 125; refine (HD.out _).mono ?_; rintro e w2 ⟨rfl, rfl⟩))
  go_wp2_with fail
  go_ret
  exact ⟨rfl, hb0.drew⟩
end Go.Proofs.YteokhnkipandbaaDoor
