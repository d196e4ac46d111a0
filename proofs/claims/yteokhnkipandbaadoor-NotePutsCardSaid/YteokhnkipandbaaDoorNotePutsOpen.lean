/-
  From the tables as they are laid to what 'NotePuts' asks of the world. No condition.
-/
import Derived.Test.YteokhnkipandbaaDoorNotePuts
import Derived.Test.YteokhnkipandbaaDoorNoteOpen
import Derived.Lib.LaidTab
namespace Go.Proofs.YteokhnkipandbaaDoor
open Go.ChangeShapes Go.WideShapes Go.ChangeAt Go.RowKit

theorem least_at {W : World} {rest : List (String × DataW Unit)} (h : laidMet Tryd.prog (("bypath/frame.least", Rows.laid_bypath_frame_least) :: rest) W) : LeastAt W := by
  have hT : Lib.TabIs Tryd.prog W "bypath/frame.least" .i64 [0, 29, 23, 21, 19] :=
    Lib.tabIs_of_head (P := Tryd.prog) (g := 1) (t := 177) (e := 3) (n := 5) (by kernel_rfl) (by kernel_rfl) Tryd.underlying177 Tryd.underlying3 (by kernel_rfl) (by kernel_rfl) h
  have hg : Tryd.prog.globalNamed "bypath/frame.least" = some 1 := by kernel_rfl
  exact ⟨hT.cell hg 1 (by decide), hT.cell hg 2 (by decide), hT.cell hg 3 (by decide), hT.cell hg 4 (by decide)⟩

theorem note_puts_law (n : NV) (W : World) (h : laidMetH Tryd.prog [("math/bits.deBruijn32tab", Rows.laid_math_bits_deBruijn32tab), ("math/bits.deBruijn64tab", Rows.laid_math_bits_deBruijn64tab), ("internal/strconv.uint64pow10", Rows.laid_internal_strconv_uint64pow10), ("bypath/frame.least", Rows.laid_bypath_frame_least), ("bypath/note.names", Rows.laid_bypath_note_names)] W)
    (hl : n.d.length ≤ 9223372036854775807) (hr : Reads W (fun _ => True) n.A (n.d.map vb)) :
    Calls Tryd.prog 17 #[n.val] W fun e w' => e = .returned (.bool true) ∧ Below W.heap.size W w' := by
  have hp := laid_plain W h (by kernel_rfl)
  have hnames : ∀ (i : Nat) (s : List UInt8), namesL[i]? = some s → W.cell? ⟨0, i, none⟩ = some (.string (str s)) :=
    strTab_of_head (P := Tryd.prog) (name := "bypath/note.names") (g := 0) (by kernel_rfl) (by kernel_rfl) Tryd.underlying165 Tryd.underlying9 (by kernel_rfl) hp.tail.tail.tail.tail
  have hT : Lib.TabIs Tryd.prog W "internal/strconv.uint64pow10" .u64 Lib.pow10Tab :=
    Lib.tabIs_of_head (P := Tryd.prog) (g := 4) (t := 211) (e := 193) (n := 20) (by kernel_rfl) (by kernel_rfl) Tryd.underlying211 Tryd.underlying193 (by kernel_rfl) (by kernel_rfl) hp.tail.tail
  have hL := least_at hp.tail.tail.tail
  have h6 := hnames 6 _ rfl
  cases hok : noteOk n with
  | false => exact note_puts_no n W hl hok h6
  | true =>
    obtain ⟨code, sub, A, c, d⟩ := n
    have hin : (1 ≤ code ∧ code ≤ 6) ∧ 0 ≤ sub ∧ sub ≤ 255 := by simp [noteOk, knownB] at hok; omega
    obtain ⟨k, rfl⟩ : ∃ k : Nat, code = (k : Int) := ⟨code.toNat, by omega⟩
    obtain ⟨s, rfl⟩ : ∃ s : Nat, sub = (s : Int) := ⟨sub.toNat, by omega⟩
    obtain ⟨nm, hk⟩ : ∃ nm, namesL[k]? = some nm := ⟨_, List.getElem?_eq_getElem (by show k < 7; omega)⟩
    exact note_puts_ok k s A c d nm W hok hr hk (hnames k nm hk) h6 (itoaAt_tab W s (by omega) (by omega) hT) hL
end Go.Proofs.YteokhnkipandbaaDoor
