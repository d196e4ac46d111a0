/-
  What routers say of themselves: Get in one contract; a message; what lives. No condition but that bytes read as data.
-/
import Derived.Test.YtbmbpcibihddaaaDoorOpQ
import Derived.Test.YtbmbpcibihddaaaDoorOpP
namespace Go.Proofs.YtbmbpcibihddaaaDoor
open Go.ChangeShapes Go.WideShapes Go.ChangeAt Go.RowKit

theorem get_any (w : World) (A : Option Addr) (cap : Nat) (b : List UInt8) (F : Nat → Prop) (hl : b.length ≤ 1000000) (hlc : b.length ≤ cap) (hr : Reads w F A (b.map vb)) :
    Calls Tryd.prog 12 #[.slice A b.length cap] w (GetEnd w b (openL b)) := by
  by_cases h4 : b.head? = some 4
  · by_cases hn : 10 ≤ b.length ∧ (b.getD 9 0).toNat = b.length - 10
    · exact get_go A cap b F hl hlc hr h4 hn
    · have : openL b = .inl 0 := by unfold openL; rw [if_pos h4, if_neg hn]
      rw [this]
      exact get_len A cap b F hl hr h4 hn
  · have : openL b = .inl 1 := by unfold openL; rw [if_neg h4]
    rw [this]
    exact get_ver A cap b F (by omega) hr h4
theorem get_yes (w : World) (A : Option Addr) (cap : Nat) (b : List UInt8) (F : Nat → Prop) (hl : b.length ≤ 1000000) (hlc : b.length ≤ cap) (hr : Reads w F A (b.map vb)) {o : OV} (ho : openL b = .inr o) :
    Calls Tryd.prog 12 #[.slice A b.length cap] w fun e w' => e = .returned (.tuple #[.agg o.cells, .agg #[.int .i64 0, .int .i64 0, .slice none 0 0]]) ∧ Below w.heap.size w w' :=
  (get_any w A cap b F hl hlc hr).mono fun _ _ h => ⟨h.yes o ho, h.bel⟩
theorem get_no' (w : World) (A : Option Addr) (cap : Nat) (b : List UInt8) (F : Nat → Prop) (hl : b.length ≤ 1000000) (hlc : b.length ≤ cap) (hr : Reads w F A (b.map vb)) {s : Int} (ho : openL b = .inl s) :
    Calls Tryd.prog 12 #[.slice A b.length cap] w fun e w' => ∃ A c n, e = .returned (.tuple #[.agg #[.int .i64 0, .int .i64 0, .int .u32 0, .bool false, .int .i64 0], .agg #[.int .i64 2, .int .i64 s, .slice A n c]]) ∧ Below w.heap.size w w' :=
  (get_any w A cap b F hl hlc hr).mono fun e w' h => by
    obtain ⟨A, c, d, he, -⟩ := h.no s ho
    exact ⟨A, c, d.length, he, h.bel⟩
/-- the two cells of a body's answer, as a caller keeps them -/
theorem two_cells (W : World) (x5 x3 : Array Value) :
    Blk ((W.alloc (.cells #[.int .i64 0, .int .i64 0, .int .u32 0, .bool false, .int .i64 0] 24)).alloc (.cells #[.int .i64 0, .int .i64 0, .slice none 0 0] 37)) W.heap.size 24 #[.int .i64 0, .int .i64 0, .int .u32 0, .bool false, .int .i64 0] ∧ Blk (((W.alloc (.cells #[.int .i64 0, .int .i64 0, .int .u32 0, .bool false, .int .i64 0] 24)).alloc (.cells #[.int .i64 0, .int .i64 0, .slice none 0 0] 37)).setRow W.heap.size x5) (W.heap.size + 1) 37 #[.int .i64 0, .int .i64 0, .slice none 0 0] ∧
    Blk ((((W.alloc (.cells #[.int .i64 0, .int .i64 0, .int .u32 0, .bool false, .int .i64 0] 24)).alloc (.cells #[.int .i64 0, .int .i64 0, .slice none 0 0] 37)).setRow W.heap.size x5).setRow (W.heap.size + 1) x3) W.heap.size 24 x5 ∧ Blk ((((W.alloc (.cells #[.int .i64 0, .int .i64 0, .int .u32 0, .bool false, .int .i64 0] 24)).alloc (.cells #[.int .i64 0, .int .i64 0, .slice none 0 0] 37)).setRow W.heap.size x5).setRow (W.heap.size + 1) x3) (W.heap.size + 1) 37 x3 ∧ Below W.heap.size W ((((W.alloc (.cells #[.int .i64 0, .int .i64 0, .int .u32 0, .bool false, .int .i64 0] 24)).alloc (.cells #[.int .i64 0, .int .i64 0, .slice none 0 0] 37)).setRow W.heap.size x5).setRow (W.heap.size + 1) x3) := by
  obtain ⟨h1, h2, h3⟩ := get_cells W
  have h4 := h2.farRow (k := W.heap.size) (by omega) x5
  exact ⟨h1, h4, (h1.setRow_ x5).farRow (by omega) x3, h4.setRow_ x3, below_setRow (below_setRow h3 (g := W.heap.size) (Nat.le_refl _) x5) (g := W.heap.size + 1) (by omega) x3⟩
def msgCells (A : Option Addr) (n c : Nat) : Array Value := #[.int .i64 1, .slice A n c]
set_option maxRecDepth 10000 in
set_option maxHeartbeats 4000000 in
theorem omsg_ok (o : OV) (w : World) (hok : o.ok = true) (hi32 : o.id < 4294967296) :
    Calls Tryd.prog 8 #[o.val] w fun e w' => ∃ A c, e = .returned (.tuple #[.agg #[.int .i64 1, .slice A o.put.length c], .int .i64 0]) ∧ Reads w' (fun k => w.heap.size ≤ k) A (o.put.map vb) ∧ o.put.length ≤ c ∧ Below w.heap.size w w' := by
  have hM := Blk.new1 w (.cells o.cells 24) 30 #[.int .i64 0, .slice none 0 0]
  have hb0 := below_a2 w (.cells o.cells 24) (.cells #[.int .i64 0, .slice none 0 0] 30)
  have HP := Lib.hid (oput_ok o ((w.alloc (.cells o.cells 24)).alloc (.cells #[.int .i64 0, .slice none 0 0] 30)) hok hi32)
  generalize o.put = b at *
  obtain ⟨asn, hold, id, four, paths⟩ := o
  simp only [OV.val, OV.cells] at *
  clear hok
  go_enter Tryd.func8, Tryd.ntmps8
  go_wp2_with fail
  refine HP.out.mono ?_
  rintro e w1 ⟨v1, rfl, own1, hb1⟩
  obtain ⟨A1, c1, hv1, hlc1, _, _, rd1⟩ := own_reads own1
  subst hv1
  have hM1 := hM.below hb1 hM.lt
  have hB1 := hb0.trans (hb1.mono hb0.size)
  have hM2 := hM1.setRow_ #[.int .i64 1, .slice A1 b.length c1]
  have hB2 := below_setRow hB1 (g := w.heap.size + 1) (by omega) #[.int .i64 1, .slice A1 b.length c1]
  have hrd := (rd1.mono (G := fun k => w.heap.size + 2 ≤ k) (fun k _ h => by have := h.1; simp at this; omega)).only (only_setRow w1 (w.heap.size + 1) #[.int .i64 1, .slice A1 b.length c1]) (fun b _ h e => by omega)
  have HM2 := Lib.hid hM2
  have HRD := Lib.hid (hrd.mono (G := fun k => w.heap.size ≤ k) (fun b _ h => by omega))
  clear hM2 rd1 own1 hb1 HP hrd
  go_wp2_with (refine wpList_store_blk (by rfl) 30 (.tmp 2) (.tmp 16) rfl (w.heap.size + 1) #[.int .i64 1, .slice A1 b.length c1] (by rfl) (by rfl) 30 _ hM1 (by kernel_rfl) (by rfl) (msg_one _ _ _ _) ?_)
  refine bodyPost_ret (results_cell_tmp rfl _ _ (w.heap.size + 1) 30 #[.int .i64 1, .slice A1 b.length c1] (0, 0) _ (by simp) HM2.out Tryd.underlying30 rfl (by kernel_rfl)) rfl ?_
  exact ⟨A1, c1, by simp, HRD.out, hlc1, hB2⟩
end Go.Proofs.YtbmbpcibihddaaaDoor
