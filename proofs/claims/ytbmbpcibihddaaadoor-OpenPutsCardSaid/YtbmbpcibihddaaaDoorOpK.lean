/-
  What routers say of themselves: what is wrong with what was read; a note that says so. No condition but that what was said stands in memory.
-/
import Derived.Test.YtbmbpcibihddaaaDoorOpJ
import Derived.Test.YtbmbpcibihddaaaDoorNoteB
namespace Go.Proofs.YtbmbpcibihddaaaDoor
open Go.ChangeShapes Go.WideShapes Go.ChangeAt Go.RowKit

def OV.fault (o : OV) : Int := if o.asn = 0 then 2 else if o.hold = 1 ∨ o.hold = 2 then 6 else if o.id = 0 then 3 else -1
def ozero : OV := ⟨0, 0, 0, false, 0⟩
theorem ov_one (a b : Int) (c : Int) (d : Bool) (e : Int) : (#[Value.int .i64 a, .int .i64 b, .int .u32 c, .bool d, .int .i64 e] : Array Value).all (·.oneCell') = true := by simp [Value.oneCell']
set_option maxHeartbeats 1000000 in
theorem ofault_any {w : World} {sb : Nat} {o : OV} (hS : SaidIs w sb o) :
    Calls Tryd.prog 38 #[.pointer (some ⟨sb, 0, none⟩)] w fun e w' => e = .returned (.int .i64 o.fault) ∧ w = w' := by
  have hE : o.fault = if o.asn = 0 then 2 else if o.hold = 1 ∨ o.hold = 2 then 6 else if o.id = 0 then 3 else -1 := rfl
  generalize o.fault = r at *
  obtain ⟨asn, hold, id, four, paths⟩ := o
  have hc0 := Blk.cell hS 0
  have hc1 := Blk.cell hS 1
  have hc2 := Blk.cell hS 2
  simp [OV.cells] at hc0 hc1 hc2
  simp only at hE
  clear hS
  by_cases h0 : asn = 0
  · rw [if_pos h0] at hE
    subst hE h0
    go_enter Tryd.func38, Tryd.ntmps38
    go_wp2_with fail
    go_ret
    exact ⟨rfl, rfl⟩
  · rw [if_neg h0] at hE
    by_cases h1 : hold = 1 ∨ hold = 2
    · rw [if_pos h1] at hE
      subst hE
      rcases h1 with rfl | rfl
      all_goals
        go_enter Tryd.func38, Tryd.ntmps38
        go_wp2_with fail
        go_ret
        exact ⟨rfl, rfl⟩
    · rw [if_neg h1] at hE
      have h1a : ¬ hold = 1 := fun h => h1 (.inl h)
      have h1b : ¬ hold = 2 := fun h => h1 (.inr h)
      have hbb : (hold == 1 || hold == 2) = false := by simp [h1a, h1b]
      by_cases h2 : id = 0
      · rw [if_pos h2] at hE
        subst hE h2
        go_enter Tryd.func38, Tryd.ntmps38
        go_wp2_with fail
        go_ret
        exact ⟨rfl, rfl⟩
      · rw [if_neg h2] at hE
        subst hE
        have h2b : ¬ (id : Int) = 0 := by omega
        go_enter Tryd.func38, Tryd.ntmps38
        go_wp2_with fail
        go_ret
        exact ⟨rfl, rfl⟩
theorem results_cell_cell {P : Program} {fn : Func} {p r : Tmp} {ty ty' : TypeId} (h : fn.results = #[.cell p ty, .cell r ty']) (tmps : Array Value) (w : World) (g g' : Nat) (t t' : TypeId) (cs cs' : Array Value) (fr fr' : Nat × Nat) (d d' : TypeDesc)
    (hp : tmps.getD p undef = .pointer (some ⟨g, 0, none⟩)) (hp' : tmps.getD r undef = .pointer (some ⟨g', 0, none⟩)) (hg : w.heap[g]? = some (.cells cs t fr)) (hg' : w.heap[g']? = some (.cells cs' t' fr'))
    (hu : P.underlying ty = some d) (hd : (match d with | .struct _ | .array _ _ => true | _ => false) = true) (hi : (P.info? ty).map (·.size) = some cs.size)
    (hu' : P.underlying ty' = some d') (hd' : (match d' with | .struct _ | .array _ _ => true | _ => false) = true) (hi' : (P.info? ty').map (·.size) = some cs'.size) :
    (results fn tmps).run P w = .ok (.tuple #[.agg cs, .agg cs']) w := by
  have h1 : tmps[p]?.getD undef = .pointer (some ⟨g, 0, none⟩) := by simpa using hp
  have h2 : tmps[r]?.getD undef = .pointer (some ⟨g', 0, none⟩) := by simpa using hp'
  simp [results, h, h1, h2, asAddr, run_loadVar_row w g t ty cs fr d hg hu hd hi, run_loadVar_row w g' t' ty' cs' fr' d' hg' hu' hd' hi']
/-- what comes where it is wrong -/
def refused (sub : Int) (A : Option Addr) (n c : Nat) : Value := .tuple #[.agg ozero.cells, .agg #[.int .i64 2, .int .i64 sub, .slice A n c]]
set_option maxRecDepth 10000 in
set_option maxHeartbeats 4000000 in
theorem refuse_any (sub : Int) (A : Option Addr) (c : Nat) (d : List UInt8) (F : Nat → Prop) (w : World) (hl : d.length ≤ 1000) (hr : Reads w F A (d.map vb)) :
    Calls Tryd.prog 33 #[.int .i64 sub, .slice A d.length c] w fun e w' => ∃ A' c', e = .returned (refused sub A' d.length c') ∧ Reads w' (fun k => w.heap.size ≤ k) A' (d.map vb) ∧ Below w.heap.size w w' := by
  have hM := (Blk.new w 24 ozero.cells).alloc (.cells #[.int .i64 0, .int .i64 0, .slice none 0 0] 37)
  have hN := Blk.new1 w (.cells ozero.cells 24) 37 #[.int .i64 0, .int .i64 0, .slice none 0 0]
  have hb := below_a2 w (.cells ozero.cells 24) (.cells #[.int .i64 0, .int .i64 0, .slice none 0 0] 37)
  have hr2 := (hr.alloc (.cells ozero.cells 24)).alloc (.cells #[.int .i64 0, .int .i64 0, .slice none 0 0] 37)
  have HC := Lib.hid (clone_u8 A c d F _ (by omega) hr2)
  clear hr hr2
  unfold refused
  unfold ozero OV.cells at *
  go_enter Tryd.func33, Tryd.ntmps33
  go_wp2_with fail
  refine HC.out.mono ?_
  rintro e w1 ⟨v1, rfl, own1, hb1⟩
  obtain ⟨A1, c1, hv1, _, _, _, rd1⟩ := own_reads own1
  subst hv1
  have hM1 := hM.below hb1 hM.lt
  have hN1 := hN.below hb1 hN.lt
  have hB1 := hb.trans (hb1.mono hb.size)
  have hlt := hM.lt
  have hM2 := hM1.setRow_ #[.int .i64 0, .int .i64 0, .int .u32 0, .bool false, .int .i64 0]
  have hN2 := hN1.farRow (k := w.heap.size) (by omega) #[.int .i64 0, .int .i64 0, .int .u32 0, .bool false, .int .i64 0]
  have hM3 := hM2.farRow (k := w.heap.size + 1) (by omega) #[.int .i64 2, .int .i64 sub, .slice A1 d.length c1]
  have hN3 := hN2.setRow_ #[.int .i64 2, .int .i64 sub, .slice A1 d.length c1]
  have hB2 := below_setRow (below_setRow hB1 (g := w.heap.size) (Nat.le_refl _) #[.int .i64 0, .int .i64 0, .int .u32 0, .bool false, .int .i64 0]) (g := w.heap.size + 1) (by omega) #[.int .i64 2, .int .i64 sub, .slice A1 d.length c1]
  have rd3 : Reads ((w1.setRow w.heap.size #[.int .i64 0, .int .i64 0, .int .u32 0, .bool false, .int .i64 0]).setRow (w.heap.size + 1) #[.int .i64 2, .int .i64 sub, .slice A1 d.length c1]) (fun k => w.heap.size ≤ k) A1 (d.map vb) := by
    have h0 := rd1.mono (G := fun k => w.heap.size + 2 ≤ k) (fun k _ h => by have := h.1; simp at this; omega)
    have h1 := h0.only (only_setRow w1 w.heap.size #[.int .i64 0, .int .i64 0, .int .u32 0, .bool false, .int .i64 0]) (fun b _ h e => by omega)
    exact (h1.only (only_setRow _ (w.heap.size + 1) #[.int .i64 2, .int .i64 sub, .slice A1 d.length c1]) (fun b _ h e => by omega)).mono (fun b _ h => by omega)
  have HM := Lib.hid hM3
  have HN := Lib.hid hN3
  have HRD := Lib.hid rd3
  clear hM3 hN3 hM2 rd1 rd3 own1 hb1 HC
  go_wp2_with (first | (refine wpList_store_blk (by rfl) 24 (.tmp 4) (.tmp 6) rfl w.heap.size #[.int .i64 0, .int .i64 0, .int .u32 0, .bool false, .int .i64 0] (by rfl) (by rfl) 24 _ hM1 (by kernel_rfl) (by rfl) (ov_one _ _ _ _ _) ?_) |
    (refine wpList_store_blk (by rfl) 37 (.tmp 5) (.tmp 10) rfl (w.heap.size + 1) #[.int .i64 2, .int .i64 sub, .slice A1 d.length c1] (by rfl) (by rfl) 37 _ hN2 (by kernel_rfl) (by rfl) (note_one _ _ _ _ _) ?_))
  refine bodyPost_ret (results_cell_cell rfl _ _ _ _ 24 37 #[.int .i64 0, .int .i64 0, .int .u32 0, .bool false, .int .i64 0] #[.int .i64 2, .int .i64 sub, .slice A1 d.length c1] (0, 0) (0, 0) _ _ (by simp [Act.put]) (by simp [Act.put]) HM.out HN.out Tryd.underlying24 rfl (by kernel_rfl) Tryd.underlying37 rfl (by kernel_rfl)) rfl ?_
  exact ⟨A1, c1, rfl, HRD.out, hB2⟩
end Go.Proofs.YtbmbpcibihddaaaDoor
