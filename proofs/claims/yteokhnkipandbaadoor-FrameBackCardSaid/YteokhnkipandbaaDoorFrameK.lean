/-
  Streams: Next, where a mark is wrong. No condition but that the table of least lengths reads as it is laid.
-/
import Derived.Test.YteokhnkipandbaaDoorFrameI
import Derived.Deep.RegionHeld3
namespace Go.Proofs.YteokhnkipandbaaDoor
open Go.ChangeShapes Go.WideShapes Go.ChangeAt Go.RowKit

theorem set4 {w : World} {g : Nat} {t : TypeId} {a0 b0 c0 d0 : Value} (h : Blk w g t #[a0, b0, c0, d0]) (a b c d : Value) : Blk ((((w.setCell ⟨g, 0, none⟩ a).setCell ⟨g, 1, none⟩ b).setCell ⟨g, 2, none⟩ c).setCell ⟨g, 3, none⟩ d) g t #[a, b, c, d] ∧ Only (fun k => k = g) w ((((w.setCell ⟨g, 0, none⟩ a).setCell ⟨g, 1, none⟩ b).setCell ⟨g, 2, none⟩ c).setCell ⟨g, 3, none⟩ d) := by
  refine ⟨?_, ((((Only.refl (fun k => k = g) w).setCell (p := ⟨g, 0, none⟩) (fun _ => rfl) a).setCell (p := ⟨g, 1, none⟩) (fun _ => rfl) b).setCell (p := ⟨g, 2, none⟩) (fun _ => rfl) c).setCell (p := ⟨g, 3, none⟩) (fun _ => rfl) d⟩
  have := (((h.set_ 0 a).set_ 1 b).set_ 2 c).set_ 3 d
  simpa using this
/-- what Next leaves behind a head that is wrong -/
structure NextBad (B : Nat) (w : World) (g : Nat) (w' : World) : Prop where
  s : ∃ v9, Strm B w' g (.slice none 0 0) [] 1 1 v9
  only : Only (fun k => k = g) w w'

section
variable {B : Nat} {w : World} {g : Nat} {v : Value} {bs : List UInt8} {sub : Int} {dv : Value}

set_option maxRecDepth 10000 in
set_option maxHeartbeats 8000000 in
theorem next_bad (h : Strm B w g v bs 0 sub dv) (hL : LeastAt w) (hm : bs.length ≤ 65536) (hc : headR bs = ⟨0, 0, 1, 1, []⟩) :
    Calls Tryd.prog 41 #[.pointer (some ⟨g, 0, none⟩)] w fun e w' => ∃ A6 c6, e = .returned (.tuple #[.agg msgNone, .bool false, .agg #[.int .i64 1, .int .i64 1, .slice A6 0 c6]]) ∧ NextBad B w g w' := by
  have hgl := h.blk.lt
  have hbs := h.base
  have hb2 := below_a2 w (.cells msgNone 61) (.cells noteNone 68)
  have hM2 := (Blk.new w 61 msgNone).alloc (.cells noteNone 68)
  have hN2 := Blk.new1 w (.cells msgNone 61) 68 noteNone
  have h2 := h.below hb2
  obtain ⟨A1, c1, hv, hc1, _, _, hr2⟩ := own_reads h2.own
  subst hv
  obtain ⟨d0, d1, _⟩ := blk4 h2.blk
  have hh := head_any A1 c1 bs _ _ hc1 (by omega) hr2 (hL.below hb2)
  rw [hc] at hh
  have HH := Lib.hid hh
  clear hr2 hL h hh hc
  simp only [HR.val] at HH
  unfold msgNone noteNone at *
  go_enter Tryd.func41, Tryd.ntmps41
  go_wp2_with fail
  refine HH.out.mono ?_
  rintro e w3 ⟨v1, rfl, hp⟩
  obtain ⟨A2, c2, hv2, -⟩ := own_reads hp.own
  have hv2 : v1 = .slice A2 0 c2 := hv2
  subst hv2
  have hs3 := hp.bel.size
  simp only [World.size_alloc] at hs3
  have al := below_a1 w3 (.cells #[.int .i64 1, .int .i64 1, .slice A2 0 c2] 68)
  have hB24 := hp.bel.trans (al.mono hp.bel.size)
  have hb4 := hb2.trans (hB24.mono hb2.size)
  have hM4 := hM2.below hB24 hM2.lt
  have hN4 := hN2.below hB24 hN2.lt
  have h4 := h2.below hB24
  have hK4 := Blk.new w3 68 #[.int .i64 1, .int .i64 1, .slice A2 0 c2]
  obtain ⟨x0, x1, x2, x3, f0, f1, f2, f3⟩ := blk4 h4.blk
  obtain ⟨n0, n1, n2, _, _, _⟩ := blk3 hK4
  have hne1 : ¬ g = w3.heap.size := by omega
  have hne2 : ¬ w3.heap.size = g := by omega
  clear hM2 hN2 h2 hp al hB24 d0 d1 hb2
  go_wp2_with fail
  go_region_held3 (fun W => W.cell? ⟨w3.heap.size, 0, none⟩ = some (.int .i64 1) ∧ W.cell? ⟨w3.heap.size, 1, none⟩ = some (.int .i64 1) ∧ W.cell? ⟨w3.heap.size, 2, none⟩ = some (.slice A2 0 c2)) (go_keep) (fail)
  obtain ⟨hS5, ho5⟩ := set4 h4.blk (.slice none 0 0) (.int .i64 1) (.int .i64 1) (.slice A2 0 c2)
  have hT := told_any (d := []) (F := fun _ => True) hS5.drew Reads.nil (by simp)
  have M5 := hM4.only ho5 (by omega)
  have N5 := hN4.only ho5 (by omega)
  have O5 : Only (fun k => k = g) w _ := (Only.of_below (S := fun k => k = g) hb4).trans ho5 (fun _ _ h => h)
  have HT := Lib.hid fun (_ : Unit) => hT
  have HS5 := Lib.hid fun (_ : Unit) => hS5.drew
  have HM5 := Lib.hid fun (_ : Unit) => M5.drew
  have HN5 := Lib.hid fun (_ : Unit) => N5.drew
  have HO5 := Lib.hid fun (_ : Unit) => O5.drew
  clear hT hS5 ho5 M5 N5 O5 hM4 hN4 hb4 h4 x0 x1 x2 x3 f0 f1 f2 f3 n0 n1 n2 hK4
  go_wp2_with fail
  refine (HT.out ()).mono ?_
  rintro e w6 ⟨v6, rfl, o6, b6⟩
  obtain ⟨A6, c6, hv6, -⟩ := own_reads o6
  have hv6 : v6 = .slice A6 0 c6 := hv6
  subst hv6
  have S6 := (HS5.out ()).below b6 (HS5.out ()).lt
  have M6 := (HM5.out ()).below b6 (HM5.out ()).lt
  have N6 := (HN5.out ()).below b6 (HN5.out ()).lt
  have O6 := (HO5.out ()).trans (Only.of_below (S := fun k => k = g) b6) (fun _ _ h => h)
  have N7 := N6.farRow (k := w.heap.size) (by omega) #[.int .i64 0, .slice none 0 0]
  have M8 := (M6.setRow_ #[.int .i64 0, .slice none 0 0]).farRow (k := w.heap.size + 1) (by omega) #[.int .i64 1, .int .i64 1, .slice A6 0 c6]
  have N8 := N7.setRow_ #[.int .i64 1, .int .i64 1, .slice A6 0 c6]
  have S8 := (S6.farRow (k := w.heap.size) (by omega) #[.int .i64 0, .slice none 0 0]).farRow (k := w.heap.size + 1) (by omega) #[.int .i64 1, .int .i64 1, .slice A6 0 c6]
  have O8 := (O6.trans (only_setRow _ w.heap.size #[.int .i64 0, .slice none 0 0]) (fun i hi h => by omega)).trans (only_setRow _ (w.heap.size + 1) #[.int .i64 1, .int .i64 1, .slice A6 0 c6]) (fun i hi h => by omega)
  have HNB : NextBad B w g _ := ⟨⟨_, S8, own_nil _ _ _ _, hbs⟩, O8⟩
  have HM := Lib.hid fun (_ : Unit) => M8
  have HN := Lib.hid fun (_ : Unit) => N8
  have HX := Lib.hid fun (_ : Unit) => HNB
  clear S6 O6 M8 N8 S8 O8 HNB N6 o6 b6 HS5 HM5 HN5 HO5 HT
  go_wp2_with (first | (refine wpList_store_blk (by rfl) 61 (.tmp 2) (.tmp 41) rfl w.heap.size #[.int .i64 0, .slice none 0 0] (by rfl) (by rfl) 61 _ M6 (by kernel_rfl) (by rfl) (msg_one _ _ _ _) ?_) |
    (refine wpList_store_blk (by rfl) 68 (.tmp 4) (.tmp 43) rfl (w.heap.size + 1) #[.int .i64 1, .int .i64 1, .slice A6 0 c6] (by rfl) (by rfl) 68 _ N7 (by kernel_rfl) (by rfl) (note_one _ _ _ _ _) ?_))
  refine bodyPost_ret (results_cell_tmp_cell rfl _ _ _ _ 61 68 #[.int .i64 0, .slice none 0 0] #[.int .i64 1, .int .i64 1, .slice A6 0 c6] (0, 0) (0, 0) _ _ (by simp [Act.put]) (by simp [Act.put]) (HM.out ()) (HN.out ()) Tryd.underlying61 rfl (by kernel_rfl) Tryd.underlying68 rfl (by kernel_rfl)) rfl ?_
  exact ⟨A6, c6, by simp [Act.put], HX.out ()⟩
end
end Go.Proofs.YteokhnkipandbaaDoor
