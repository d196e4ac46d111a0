/-
  Messages' bytes, as the document puts them. No condition but that bytes read as data.
-/
import Derived.Test.YtbmbpcibihddaaaDoorFrameE
namespace Go.Proofs.YtbmbpcibihddaaaDoor
open Go.ChangeShapes Go.WideShapes Go.ChangeAt Go.RowKit

theorem own_alive {W W' : World} {B n : Nat} {v : Value} {xs : List Value} (h : W.ownsRow B 5 1 v n xs) (hb : Below W.heap.size W W') : W'.ownsRow B 5 1 v n xs := own_only h (S := fun _ => False) (Only.of_below hb) (fun _ _ h => h)
set_option maxRecDepth 10000 in
set_option maxHeartbeats 4000000 in
theorem rfput_ok (m : MV) (w : World) (F : Nat → Prop) (hok : m.ok = true) (hr : Reads w F m.A (m.d.map vb)) :
    Calls Tryd.prog 42 #[m.val] w fun e w' => ∃ v, e = .returned v ∧ w'.ownsRow w.heap.size 5 1 v m.put.length (m.put.map vb) ∧ Below w.heap.size w w' := by
  have hin : (1 ≤ m.ty ∧ m.ty ≤ 4) ∧ m.d.length ≤ 4077 := by simp [MV.ok, fknownB, fitsF] at hok; omega
  obtain ⟨⟨g1, g4⟩, gd⟩ := hin
  obtain ⟨i0, hi, hz0, hz1, hz2⟩ := info_parts infoU8
  have hN0 := Blk.new w 30 m.cells
  have hr0 := (hr.alloc (.cells m.cells 30)).mono (G := (· < (w.alloc (.cells m.cells 30)).heap.size)) (fun _ hk _ => hk)
  have hput : m.put = List.replicate 16 255 ++ (be 2 (19 + m.d.length) ++ (UInt8.ofNat m.ty.toNat :: m.d)) := rfl
  have HPUT := Lib.hid hput
  have HVT := Lib.hid (vb_ofInt (n := m.ty) (by omega) (by omega))
  have hbw := below_a1 w (.cells m.cells 30)
  generalize m.put = mp at HPUT ⊢
  obtain ⟨ty, A, c, d⟩ := m
  simp only [MV.val, MV.cells] at *
  clear hok hr hput
  obtain ⟨w0, hw0⟩ : ∃ w0, w0 = w.alloc (.cells #[.int .i64 ty, .slice A d.length c] 30) := ⟨_, rfl⟩
  rw [← hw0] at hN0 hr0 hbw
  have HW0 := Lib.hid hw0
  clear hw0
  have e1 : IntKind.i64.wrap ((d.length : Int) + 19) = ((19 + d.length : Nat) : Int) := by rw [IntWalk.i64_in _ (by omega)]; omega
  have e2 : IntKind.u8.wrap ty = ty := IntWalk.u8_in _ (by omega)
  go_enter Tryd.func42, Tryd.ntmps42
  go_wp2_with fail
  rw [← HW0.out]
  go_loopw [3, 4] (fun v i wr => ∃ k : Nat, k ≤ 16 ∧ i = .int .i64 k ∧ wr.ownsRow w0.heap.size 5 1 v k ((List.replicate k (255 : UInt8)).map vb) ∧ Below w0.heap.size w0 wr) (fun _ i _ => 16 - (intOf i).toNat)
  case atStart => exact ⟨0, by omega, rfl, own_nil _ _ _ _, Below.refl _ _⟩
  case round =>
    obtain ⟨k, hk, rfl, hown, hb⟩ := hrel
    by_cases hk16 : k = 16
    case neg =>
      have k1 : (k : Int) < 16 := by omega
      have hbA := hb.alloc hb.size (.cells #[.int .u8 255] 5)
      have hownA := own_alive hown (below_a1 wr (.cells #[.int .u8 255] 5))
      have hrA : Reads (wr.alloc (.cells #[.int .u8 255] 5)) (fun _ => True) (some ⟨wr.heap.size, 0, none⟩) ([255].map vb) := (reads_of_blk (Blk.new wr 5 #[.int .u8 255])).mono (fun _ _ _ => trivial)
      have HJ := Lib.hid (show (List.replicate k (255 : UInt8)).map vb ++ [vb 255] = (List.replicate (k + 1) (255 : UInt8)).map vb from by rw [List.replicate_succ', List.map_append]; rfl)
      have hlk : ((List.replicate k (255 : UInt8)).map vb).length = k := by simp
      clear hown hb
      generalize (List.replicate k (255 : UInt8)).map vb = xs at hownA HJ hlk
      go_wp2_with (refine wpList_append_rd _ rfl (.tmp 9) (.tmp 10) 25 rfl w0.heap.size 5 i0 (.int .u8 0) 1 1 Tryd.underlying25 hi hz0 hz1 hz2 rfl (by omega) _ k xs (by rfl) hownA (fun _ => True) (some ⟨wr.heap.size, 0, none⟩) 1 1 ([255].map vb) (by rfl) (by simp) hrA (vb_one _) (by unfold maxLen; omega) (by omega) hbA.size ?_)
      intro v3 w3 hown3 hg3 _
      have hb3 := below_append hbA hbA.size hownA hg3
      have HO := Lib.hid hown3
      clear hrA hown3 hownA hg3 hbA
      go_wp2_with fail
      refine ⟨⟨k + 1, by omega, by simp, ?_, hb3⟩, by simp [intOf]; omega⟩
      have : w3.ownsRow w0.heap.size 5 1 v3 (k + 1) (xs ++ [vb 255]) := HO.out
      rw [HJ.out] at this
      exact this
    case pos =>
      subst hk16
      have hN1 := hN0.below hb hN0.lt
      have c0 : wr.cell? ⟨w.heap.size, 0, none⟩ = some (.int .i64 ty) := by rw [hN1.cell 0]; rfl
      have c1 : wr.cell? ⟨w.heap.size, 1, none⟩ = some (.slice A d.length c) := by rw [hN1.cell 1]; rfl
      have hlk : ((List.replicate 16 (255 : UInt8)).map vb).length = 16 := by simp
      generalize hx : (List.replicate 16 (255 : UInt8)).map vb = xs at hown hlk
      have HX := Lib.hid hx
      clear hx
      go_wp2_with fail
      refine (rput_ok2 (19 + d.length) _ (by omega)).mono ?_
      rintro e w2 ⟨v2, rfl, own2, hb2⟩
      have hB2 := hb.trans (hb2.mono hb.size)
      have hown2 := own_alive hown hb2
      obtain ⟨A2, c2, hv2, _, _, _, rd2⟩ := own_reads own2
      subst hv2
      have rd2 : Reads w2 (fun _ => True) A2 ((be 2 (19 + d.length)).map vb) := rd2.mono (fun _ _ _ => trivial)
      have hlb : ((be 2 (19 + d.length)).map vb).length = 2 := by simp [be_length]
      clear hown own2 c0 c1 hb2 hN1
      go_wp2_with (refine wpList_append_rd _ rfl (.tmp 12) (.tmp 17) 25 rfl w0.heap.size 5 i0 (.int .u8 0) 1 1 Tryd.underlying25 hi hz0 hz1 hz2 rfl (by omega) _ 16 xs (by rfl) hown2 (fun _ => True) A2 2 c2 ((be 2 (19 + d.length)).map vb) (by rfl) (by simp [hlb]) rd2 (vb_one _) (by unfold maxLen; omega) (by omega) hB2.size ?_)
      intro v3 w3 hown3 hg3 _
      have hb3 := below_append hB2 hB2.size hown2 hg3
      have hN3 := hN0.below hb3 hN0.lt
      have c0 : w3.cell? ⟨w.heap.size, 0, none⟩ = some (.int .i64 ty) := by rw [hN3.cell 0]; rfl
      have c1 : w3.cell? ⟨w.heap.size, 1, none⟩ = some (.slice A d.length c) := by rw [hN3.cell 1]; rfl
      clear hown2 rd2 hg3 hB2 hN3
      have hl3 : (xs ++ (be 2 (19 + d.length)).map vb).length = 18 := by simp [hlk, hlb]
      have HXX := Lib.hid (show xs ++ (be 2 (19 + d.length)).map vb = (List.replicate 16 255 ++ be 2 (19 + d.length)).map vb from by rw [← HX.out, List.map_append])
      generalize xs ++ (be 2 (19 + d.length)).map vb = ys at hown3 hl3 HXX
      have bA : Below w0.heap.size w0 (w3.drew.alloc (.cells #[.int .u8 ty] 5)) := hb3.drew.alloc hb3.size _
      have oA : (w3.drew.alloc (.cells #[.int .u8 ty] 5)).ownsRow w0.heap.size 5 1 v3 18 ys := own_alive (W := w3.drew) hown3 (below_a1 w3.drew _)
      have rA : Reads (w3.drew.alloc (.cells #[.int .u8 ty] 5)) (fun _ => True) (some ⟨w3.heap.size, 0, none⟩) ([UInt8.ofNat ty.toNat].map vb) := by
        have := (reads_of_blk (Blk.new w3.drew 5 #[.int .u8 ty])).mono (G := fun _ => True) (fun _ _ _ => trivial)
        show Reads _ _ _ [vb (UInt8.ofNat ty.toNat)]
        rw [HVT.out]
        exact this
      have hcc : ∀ W, Below w0.heap.size w0 W → W.cell? ⟨w.heap.size, 0, none⟩ = some (.int .i64 ty) ∧ W.cell? ⟨w.heap.size, 1, none⟩ = some (.slice A d.length c) := fun W h => by
        have hN := hN0.below h hN0.lt
        exact ⟨by rw [hN.cell 0]; rfl, by rw [hN.cell 1]; rfl⟩
      have HCC := Lib.hid hcc
      clear hcc hown3 hN0
      go_wp2_with fail
      go_region_held3 (fun W => W.cell? ⟨w.heap.size, 0, none⟩ = some (.int .i64 ty) ∧ W.cell? ⟨w.heap.size, 1, none⟩ = some (.slice A d.length c))
        (first | exact HCC.out _ hb5 | exact HCC.out _ hb4 | go_keep)
        (first | (refine step_append_rd _ (by rfl) (.tmp 19) (.tmp 23) 25 (by rfl) w0.heap.size 5 i0 (.int .u8 0) 1 1 Tryd.underlying25 hi hz0 hz1 hz2 rfl (by omega) _ 18 ys (by rfl) oA (fun _ => True) _ 1 1 ([UInt8.ofNat ty.toNat].map vb) (by rfl) (by simp) rA (vb_one _) (by unfold maxLen; omega) (by omega) bA.size ?_; intro v4 w4 hown4 hg4 _; have hb4 := below_append bA bA.size oA hg4) |
          (refine step_append_rd _ (by rfl) (.tmp 24) (.tmp 26) 25 (by rfl) w0.heap.size 5 i0 (.int .u8 0) 1 1 Tryd.underlying25 hi hz0 hz1 hz2 rfl (by omega) _ 19 _ (by rfl) hown4 (fun k => k < w0.heap.size) A d.length c (d.map vb) (by rfl) (by simp) (hr0.below hb4 (fun _ _ h => h)) (vb_one _) (by unfold maxLen; omega) (by omega) hb4.size ?_; intro v5 w5 hown5 hg5 _; have hb5 := below_append hb4 hb4.size hown4 hg5))
      have HO := Lib.hid hown5
      clear hown4 hown5 oA rA
      go_wp2_with fail
      go_ret
      refine ⟨v5, rfl, ?_, hbw.trans (hb5.mono hbw.size)⟩
      have := own_mono HO.out hbw.size
      rw [HXX.out, ← List.map_append, ← List.map_append] at this
      have e : (List.replicate 16 255 ++ be 2 (19 + d.length) ++ [UInt8.ofNat ty.toNat]) ++ d = mp := by rw [HPUT.out]; simp
      rw [e] at this
      have el : 19 + d.length = mp.length := by rw [← e]; simp [be_length]; omega
      rw [el] at this
      exact this
end Go.Proofs.YtbmbpcibihddaaaDoor
