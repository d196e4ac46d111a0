/-
  What is monitored, as it reads, to what the walks ask of the world. No condition.
-/
import Derived.Test.YtbmbpcibihddaaaDoorBmpA
import Derived.Test.YtbmbpcibihddaaaDoorOpOpen
namespace Go.Proofs.YtbmbpcibihddaaaDoor
open Go.ChangeShapes Go.WideShapes Go.ChangeAt Go.RowKit

section
variable {H : Type} {enc : TypeId × Value → H} {w : World} {base : Nat} {spare : Nat → Bool} {held : Bool}
theorem mon_said {fuel : Nat} {cs : List Value} {x : DataW H × List MemPlace} (h : DataW.trod enc Tryd.prog w base spare held fuel 45 cs = some x) :
    ∃ m : MoV, cs = m.cells.toList ∧ m.Rd w (fun _ => True) ∧ m.d.u32 := by
  obtain ⟨hlen, n, hf⟩ := trod_fields Tryd.underlying45 h
  rw [show Tryd.prog.cellsOf 45 = 10 by kernel_rfl] at hlen
  obtain ⟨a0, e0, w0⟩ := field_int hf 0 _ rfl 0 rfl Tryd.underlying3 (by kernel_rfl)
  obtain ⟨y1, g1⟩ := field_any hf 1 _ rfl 1 3 43 rfl rfl (by kernel_rfl)
  obtain ⟨hlen1, n1, hf1⟩ := trod_fields Tryd.underlying43 g1
  obtain ⟨p0, f0, v0⟩ := field_int hf1 0 _ rfl 0 rfl Tryd.underlying22 (by kernel_rfl)
  obtain ⟨p1, f1, v1⟩ := field_int hf1 1 _ rfl 1 rfl Tryd.underlying22 (by kernel_rfl)
  obtain ⟨p2, f2, v2⟩ := field_int hf1 2 _ rfl 2 rfl Tryd.underlying3 (by kernel_rfl)
  obtain ⟨a4, e4, w4⟩ := field_int hf 2 _ rfl 4 rfl Tryd.underlying3 (by kernel_rfl)
  obtain ⟨a5, e5, w5⟩ := field_int hf 3 _ rfl 5 rfl Tryd.underlying3 (by kernel_rfl)
  obtain ⟨a6, e6, w6⟩ := field_int hf 4 _ rfl 6 rfl Tryd.underlying22 (by kernel_rfl)
  obtain ⟨y7, g7⟩ := field_any hf 5 _ rfl 7 1 25 rfl rfl (by kernel_rfl)
  obtain ⟨A7, c7, d7, e7, hl7, hm7, _, hr7⟩ := open_bytes Tryd.underlying25 Tryd.underlying5 (by kernel_rfl) g7
  obtain ⟨y8, g8⟩ := field_any hf 6 _ rfl 8 1 25 rfl rfl (by kernel_rfl)
  obtain ⟨A8, c8, d8, e8, hl8, hm8, _, hr8⟩ := open_bytes Tryd.underlying25 Tryd.underlying5 (by kernel_rfl) g8
  obtain ⟨y9, g9⟩ := field_any hf 7 _ rfl 9 1 9 rfl rfl (by kernel_rfl)
  obtain ⟨s, e9, -, hs⟩ := DataW.trod_string Tryd.underlying9 g9
  have e7 := cell_one e7
  have e8 := cell_one e8
  have e9 := cell_one e9
  obtain ⟨i0, rfl, hi0⟩ := u32_nat v0
  obtain ⟨i1, rfl, hi1⟩ := u32_nat v1
  obtain ⟨i6, rfl, hi6⟩ := u32_nat w6
  clear hf hf1 h g1 g7 g8 g9
  unfold maxLen at hm7 hm8 hs
  match cs, hlen with
  | [b0, b1, b2, b3, b4, b5, b6, b7, b8, b9], _ =>
    simp at e0 f0 f1 f2 e4 e5 e6 e7 e8 e9
    subst e0 f0 f1 f2 e4 e5 e6 e7 e8 e9
    have hstr : str s.data.toList = s := by
      obtain ⟨d⟩ := s
      show (⟨d.toList.toArray⟩ : ByteArray) = ⟨d⟩
      rw [Array.toArray_toList]
    refine ⟨⟨a0, i0, i1, p2, a4, a5, i6, A7, c7, d7, A8, c8, d8, s.data.toList⟩, by show _ = (#[_, _, _, _, _, _, _, _, _, _] : Array Value).toList; rw [hstr], ⟨hr7, hr8, by dsimp only; omega, by dsimp only; omega, hl7, hl8, ?_⟩, hi0, hi1, hi6⟩
    have : s.data.toList.length = s.size := by rw [Array.length_toList]; rfl
    dsimp only
    omega
end
end Go.Proofs.YtbmbpcibihddaaaDoor
