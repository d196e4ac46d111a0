/-
  What routers say of themselves: a number's bytes, a capability, all of them. No condition but that bytes read as data.
-/
import Derived.Test.YtbmbpcibihddaaaDoorOpV
namespace Go.Proofs.YtbmbpcibihddaaaDoor
open Go.ChangeShapes Go.WideShapes Go.ChangeAt Go.RowKit

theorem obytes2 (n : Nat) (w : World) (h : n < 65536) : Calls Tryd.prog 31 #[.int .i64 n, .int .i64 2] w fun e w' => ∃ v, e = .returned v ∧ w'.ownsRow w.heap.size 5 1 v 2 ((be 2 n).map vb) ∧ Below w.heap.size w w' := by
  go_enter Tryd.func31, Tryd.ntmps31
  go_wp2_with fail
  refine (put_ok2 n _ h).mono ?_
  rintro e w1 ⟨v, rfl, o, b⟩
  obtain ⟨A, c, hv, _⟩ := own_reads o
  subst hv
  go_wp2_with fail
  go_ret
  exact ⟨_, rfl, o, b⟩
theorem obytes4 (n : Nat) (w : World) (h : n < 4294967296) : Calls Tryd.prog 31 #[.int .i64 n, .int .i64 4] w fun e w' => ∃ v, e = .returned v ∧ w'.ownsRow w.heap.size 5 1 v 4 ((be 4 n).map vb) ∧ Below w.heap.size w w' := by
  go_enter Tryd.func31, Tryd.ntmps31
  go_wp2_with fail
  refine (put_ok4 n _ h).mono ?_
  rintro e w1 ⟨v, rfl, o, b⟩
  obtain ⟨A, c, hv, _⟩ := own_reads o
  subst hv
  go_wp2_with fail
  go_ret
  exact ⟨_, rfl, o, b⟩

set_option maxRecDepth 10000 in
set_option maxHeartbeats 1000000 in
theorem ocap_ok (code : UInt8) (A : Option Addr) (c : Nat) (d : List UInt8) (F : Nat → Prop) (w : World) (hd : d.length ≤ 255) (hr : Reads w F A (d.map vb)) :
    Calls Tryd.prog 28 #[vb code, .slice A d.length c] w fun e w' => ∃ v, e = .returned v ∧ w'.ownsRow w.heap.size 5 1 v (d.length + 2) ((capL code d).map vb) ∧ Below w.heap.size w w' := by
  obtain ⟨i0, hi, hz0, hz1, hz2⟩ := info_parts infoU8
  have hl8 : (UInt8.ofNat d.length).toNat = d.length := by rw [UInt8.toNat_ofNat']; omega
  have hb1 := below_a1 w (.cells #[.int .u8 code.toNat, .int .u8 (d.length : Int)] 5)
  have hB1 := Blk.new w 5 #[.int .u8 code.toNat, .int .u8 (d.length : Int)]
  have o1 : (w.alloc (.cells #[.int .u8 code.toNat, .int .u8 (d.length : Int)] 5)).ownsRow w.heap.size 5 1 (.slice (some ⟨w.heap.size, 0, none⟩) 2 2) 2 ([code, UInt8.ofNat d.length].map vb) :=
    full_own (xs := [code, UInt8.ofNat d.length].map vb) (by simp only [List.map_cons, List.map_nil, vb, hl8]; exact hB1) (Nat.le_refl _) rfl (by unfold maxLen; omega)
  have hr1 := hr.alloc (.cells #[.int .u8 code.toNat, .int .u8 (d.length : Int)] 5)
  have e1 : IntKind.u8.wrap (d.length : Int) = (d.length : Int) := IntWalk.u8_in _ (by omega)
  have HC := Lib.hid fun (_ : Unit) => (show [code, UInt8.ofNat d.length].map vb ++ d.map vb = (capL code d).map vb from rfl)
  clear hB1 hr hl8
  show Calls Tryd.prog 28 #[.int .u8 code.toNat, .slice A d.length c] w _
  generalize hx : [code, UInt8.ofNat d.length].map vb = xs at o1 HC
  clear hx
  go_enter Tryd.func28, Tryd.ntmps28
  go_wp2_with (refine wpList_append_rd _ rfl (.tmp 9) (.tmp 10) 25 rfl w.heap.size 5 i0 (.int .u8 0) 1 1 Tryd.underlying25 hi hz0 hz1 hz2 rfl (by omega) _ 2 xs (by rfl) o1 F A d.length c (d.map vb) (by rfl) (by simp) hr1 (vb_one d) (by unfold maxLen; omega) (by omega) hb1.size ?_)
  intro v w2 o2 g2 _
  have hb2 := below_append hb1 hb1.size o1 g2
  rw [HC.out ()] at o2
  have HO := Lib.hid fun (_ : Unit) => o2
  clear o2 o1 hr1 g2 hb1
  go_wp2_with fail
  go_ret
  exact ⟨v, rfl, by have := HO.out (); rw [Nat.add_comm] at this; exact this, hb2⟩
end Go.Proofs.YtbmbpcibihddaaaDoor
