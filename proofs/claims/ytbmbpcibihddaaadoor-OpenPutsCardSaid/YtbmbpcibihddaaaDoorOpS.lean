/-
  What must come of every program that puts and gets what routers say: it does. No condition.
-/
import Derived.Test.YtbmbpcibihddaaaDoorOpR
namespace Go.Proofs.YtbmbpcibihddaaaDoor
open Go.ChangeShapes Go.WideShapes Go.ChangeAt Go.RowKit

def o1 : OV := ⟨65001, 90, 167772161, false, 0⟩
def o2 : OV := ⟨70000, 0, 1, true, 3⟩
theorem o1_ok : o1.ok = true := by rfl
theorem o2_ok : o2.ok = true := by rfl
theorem o1_put : o1.put = [4, 253, 233, 0, 90, 10, 0, 0, 1, 8, 2, 6, 1, 4, 0, 1, 0, 1] := by decide
theorem o2_len : o2.put.length = 30 := by rfl
set_option maxRecDepth 100000 in
set_option maxHeartbeats 8000000 in
theorem open_lives (w : World) : Calls Tryd.prog 9 #[] w fun e w' => e = .returned (.bool true) ∧ Below w.heap.size w w' := by
  have hB0 := Blk.new w 24 #[.int .i64 65001, .int .i64 90, .int .u32 167772161, .bool false, .int .i64 0]
  have hb0 := below_a1 w (.cells #[.int .i64 65001, .int .i64 90, .int .u32 167772161, .bool false, .int .i64 0] 24)
  have HP := Lib.hid (show Calls Tryd.prog 7 #[.agg #[.int .i64 65001, .int .i64 90, .int .u32 167772161, .bool false, .int .i64 0]] (w.alloc (.cells #[.int .i64 65001, .int .i64 90, .int .u32 167772161, .bool false, .int .i64 0] 24)) (fun e w' => ∃ v, e = .returned (.tuple #[v, .int .i64 0]) ∧ w'.ownsRow (w.alloc (.cells #[.int .i64 65001, .int .i64 90, .int .u32 167772161, .bool false, .int .i64 0] 24)).heap.size 5 1 v o1.put.length (o1.put.map vb) ∧ Below (w.alloc (.cells #[.int .i64 65001, .int .i64 90, .int .u32 167772161, .bool false, .int .i64 0] 24)).heap.size (w.alloc (.cells #[.int .i64 65001, .int .i64 90, .int .u32 167772161, .bool false, .int .i64 0] 24)) w') from oput_ok o1 _ o1_ok (by decide))
  go_enter Tryd.func9, Tryd.ntmps9
  go_wp2_with fail
  refine HP.out.mono ?_
  rintro e W1 ⟨v1, rfl, own1, hb1⟩
  obtain ⟨A1, c1, hv1, hlc1, _, _, rd1⟩ := own_reads own1
  have hl1 : o1.put.length = 18 := by rw [o1_put]; rfl
  rw [hl1] at hv1 hlc1
  subst hv1
  have HR1 := Lib.hid (rd1.mono (G := (· < W1.heap.size)) (fun k hk _ => hk))
  have HK1 := Lib.hid (hB0.below hb1 hB0.lt)
  have HW1 := Lib.hid (hb0.trans (hb1.mono hb0.size))
  have HG1 := Lib.hid (get_yes W1 A1 c1 o1.put _ (by rw [hl1]; omega) (by rw [hl1]; exact hlc1) HR1.out (put_get o1 o1_ok (by decide)))
  rw [hl1] at HG1
  clear own1 rd1 hb1 hB0 hb0 HP
  go_wp2_with fail
  refine HG1.out.mono ?_
  rintro e W2 ⟨rfl, hb2⟩
  have HR2 := Lib.hid (HR1.out.below hb2 (fun _ _ h => h))
  have HK2 := Lib.hid (HK1.out.below hb2 HK1.out.lt)
  have HW2 := Lib.hid (HW1.out.trans (hb2.mono HW1.out.size))
  have hs21 := HK2.out.lt
  obtain ⟨ha, hb, hc, hd, he⟩ := two_cells W2 #[.int .i64 65001, .int .i64 90, .int .u32 167772161, .bool false, .int .i64 0] #[.int .i64 0, .int .i64 0, .slice none 0 0]
  have hbq := below_a1 ((((W2.alloc (.cells #[.int .i64 0, .int .i64 0, .int .u32 0, .bool false, .int .i64 0] 24)).alloc (.cells #[.int .i64 0, .int .i64 0, .slice none 0 0] 37)).setRow W2.heap.size #[.int .i64 65001, .int .i64 90, .int .u32 167772161, .bool false, .int .i64 0]).setRow (W2.heap.size + 1) #[.int .i64 0, .int .i64 0, .slice none 0 0]) (.cells #[.int .i64 70000, .int .i64 0, .int .u32 1, .bool true, .int .i64 3] 24)
  have hBq := Blk.new ((((W2.alloc (.cells #[.int .i64 0, .int .i64 0, .int .u32 0, .bool false, .int .i64 0] 24)).alloc (.cells #[.int .i64 0, .int .i64 0, .slice none 0 0] 37)).setRow W2.heap.size #[.int .i64 65001, .int .i64 90, .int .u32 167772161, .bool false, .int .i64 0]).setRow (W2.heap.size + 1) #[.int .i64 0, .int .i64 0, .slice none 0 0]) 24 #[.int .i64 70000, .int .i64 0, .int .u32 1, .bool true, .int .i64 3]
  have hfw := he.trans (hbq.mono (by have := he.size; exact this))
  obtain ⟨WA, hWA⟩ : ∃ WA, ((((W2.alloc (.cells #[.int .i64 0, .int .i64 0, .int .u32 0, .bool false, .int .i64 0] 24)).alloc (.cells #[.int .i64 0, .int .i64 0, .slice none 0 0] 37)).setRow W2.heap.size #[.int .i64 65001, .int .i64 90, .int .u32 167772161, .bool false, .int .i64 0]).setRow (W2.heap.size + 1) #[.int .i64 0, .int .i64 0, .slice none 0 0]).alloc (.cells #[.int .i64 70000, .int .i64 0, .int .u32 1, .bool true, .int .i64 3] 24) = WA := ⟨_, rfl⟩
  have HWA := Lib.hid hWA
  rw [hWA] at hBq hfw
  have HKc := Lib.hid (show Blk WA W2.heap.size 24 #[.int .i64 65001, .int .i64 90, .int .u32 167772161, .bool false, .int .i64 0] from by rw [← hWA]; exact hc.alloc _)
  have HKd := Lib.hid (show Blk WA (W2.heap.size + 1) 37 #[.int .i64 0, .int .i64 0, .slice none 0 0] from by rw [← hWA]; exact hd.alloc _)
  have hsz : ((((W2.alloc (.cells #[.int .i64 0, .int .i64 0, .int .u32 0, .bool false, .int .i64 0] 24)).alloc (.cells #[.int .i64 0, .int .i64 0, .slice none 0 0] 37)).setRow W2.heap.size #[.int .i64 65001, .int .i64 90, .int .u32 167772161, .bool false, .int .i64 0]).setRow (W2.heap.size + 1) #[.int .i64 0, .int .i64 0, .slice none 0 0]).heap.size = W2.heap.size + 1 + 1 := by simp
  rw [hsz] at hBq
  have HKq := Lib.hid (show Blk WA (W2.heap.size + 1 + 1) 24 #[.int .i64 70000, .int .i64 0, .int .u32 1, .bool true, .int .i64 3] from hBq)
  have HFW := Lib.hid hfw
  have HMG := Lib.hid (show Calls Tryd.prog 8 #[.agg #[.int .i64 70000, .int .i64 0, .int .u32 1, .bool true, .int .i64 3]] WA (fun e w' => ∃ A c, e = .returned (.tuple #[.agg #[.int .i64 1, .slice A 30 c], .int .i64 0]) ∧ Reads w' (fun k => WA.heap.size ≤ k) A (o2.put.map vb) ∧ 30 ≤ c ∧ Below WA.heap.size WA w') from omsg_ok o2 WA o2_ok (by decide))
  clear hd he hbq hBq hfw hWA hsz hc HG1 hb2
  go_wp2_with (first | (refine wpList_store_blk (by rfl) 24 (.tmp 4) (.tmp 22) rfl W2.heap.size #[.int .i64 65001, .int .i64 90, .int .u32 167772161, .bool false, .int .i64 0] (by rfl) (by rfl) 24 _ ha (by kernel_rfl) (by rfl) (ov_one _ _ _ _ _) ?_) | (refine wpList_store_blk (by rfl) 37 (.tmp 5) (.tmp 23) rfl (W2.heap.size + 1) #[.int .i64 0, .int .i64 0, .slice none 0 0] (by rfl) (by rfl) 37 _ hb (by kernel_rfl) (by rfl) (note_one _ _ _ _ _) ?_))
  rw [HWA.out]
  refine HMG.out.mono ?_
  rintro e W3 ⟨A3, c3, rfl, hr3, hlc3, hb3⟩
  have hWA3 := hb3
  have hs3 : W2.heap.size + 1 + 1 < W3.heap.size := Nat.lt_of_lt_of_le HKq.out.lt hb3.size
  have hbm := below_a1 W3 (.cells #[.int .i64 1, .slice A3 30 c3] 30)
  have HBM := Lib.hid (Blk.new W3 30 #[.int .i64 1, .slice A3 30 c3])
  have HWM := Lib.hid ((hb3.trans (hbm.mono hb3.size)))
  have hl2 := o2_len
  have HG3 := get_yes (W3.alloc (.cells #[.int .i64 1, .slice A3 30 c3] 30)) A3 c3 o2.put _ (by rw [hl2]; omega) (by rw [hl2]; exact hlc3) (hr3.alloc _) (put_get o2 o2_ok (by decide))
  rw [hl2] at HG3
  have HG3 := Lib.hid HG3
  clear hb3 hbm hr3 ha hb HMG hWA3 hl2
  go_wp2_with fail
  refine HG3.out.mono ?_
  rintro e W4 ⟨rfl, hb4⟩
  have HM4 := Lib.hid (HBM.out.below hb4 HBM.out.lt)
  have HW4 := Lib.hid (show Below WA.heap.size WA W4 from HWM.out.trans (hb4.mono HWM.out.size))
  have hs4 : W3.heap.size < W4.heap.size := HM4.out.lt
  clear hb4 HG3
  obtain ⟨ha, hb, hc, hd, he⟩ := two_cells W4 #[.int .i64 70000, .int .i64 0, .int .u32 1, .bool true, .int .i64 3] #[.int .i64 0, .int .i64 0, .slice none 0 0]
  have HKe := Lib.hid hc
  have HKf := Lib.hid hd
  have hbs := below_a1 ((((W4.alloc (.cells #[.int .i64 0, .int .i64 0, .int .u32 0, .bool false, .int .i64 0] 24)).alloc (.cells #[.int .i64 0, .int .i64 0, .slice none 0 0] 37)).setRow W4.heap.size #[.int .i64 70000, .int .i64 0, .int .u32 1, .bool true, .int .i64 3]).setRow (W4.heap.size + 1) #[.int .i64 0, .int .i64 0, .slice none 0 0]) (.cells #[.int .u8 3] 5)
  have hrs := (reads_of_blk (Blk.new ((((W4.alloc (.cells #[.int .i64 0, .int .i64 0, .int .u32 0, .bool false, .int .i64 0] 24)).alloc (.cells #[.int .i64 0, .int .i64 0, .slice none 0 0] 37)).setRow W4.heap.size #[.int .i64 70000, .int .i64 0, .int .u32 1, .bool true, .int .i64 3]).setRow (W4.heap.size + 1) #[.int .i64 0, .int .i64 0, .slice none 0 0]) 5 #[.int .u8 3])).mono (G := fun _ => True) (fun _ _ _ => trivial)
  obtain ⟨WC, hWC⟩ : ∃ WC, ((((W4.alloc (.cells #[.int .i64 0, .int .i64 0, .int .u32 0, .bool false, .int .i64 0] 24)).alloc (.cells #[.int .i64 0, .int .i64 0, .slice none 0 0] 37)).setRow W4.heap.size #[.int .i64 70000, .int .i64 0, .int .u32 1, .bool true, .int .i64 3]).setRow (W4.heap.size + 1) #[.int .i64 0, .int .i64 0, .slice none 0 0]).alloc (.cells #[.int .u8 3] 5) = WC := ⟨_, rfl⟩
  have HWC := Lib.hid hWC
  have hsz : ((((W4.alloc (.cells #[.int .i64 0, .int .i64 0, .int .u32 0, .bool false, .int .i64 0] 24)).alloc (.cells #[.int .i64 0, .int .i64 0, .slice none 0 0] 37)).setRow W4.heap.size #[.int .i64 70000, .int .i64 0, .int .u32 1, .bool true, .int .i64 3]).setRow (W4.heap.size + 1) #[.int .i64 0, .int .i64 0, .slice none 0 0]).heap.size = W4.heap.size + 1 + 1 := by simp
  have hfw : Below W4.heap.size W4 WC := by rw [← hWC]; exact he.trans (hbs.mono (by rw [hsz]; omega))
  have HKe := Lib.hid (show Blk WC W4.heap.size 24 #[.int .i64 70000, .int .i64 0, .int .u32 1, .bool true, .int .i64 3] from by rw [← hWC]; exact hc.alloc _)
  have HKf := Lib.hid (show Blk WC (W4.heap.size + 1) 37 #[.int .i64 0, .int .i64 0, .slice none 0 0] from by rw [← hWC]; exact hd.alloc _)
  rw [hWC, hsz] at hrs
  have HG4 := Lib.hid ((get_any WC (some ⟨W4.heap.size + 1 + 1, 0, none⟩) 1 [3] _ (by simp) (by simp) hrs).mono fun e w' h => (show ∃ A c, e = .returned (.tuple #[.agg #[.int .i64 0, .int .i64 0, .int .u32 0, .bool false, .int .i64 0], .agg #[.int .i64 2, .int .i64 1, .slice A 2 c]]) ∧ Reads w' (fun _ => True) A (([0, 4] : List UInt8).map vb) ∧ Below WC.heap.size WC w' from by
    obtain ⟨A, c, d, he, hr, _, hd⟩ := h.no 1 rfl
    have hd2 := hd (by simp)
    subst hd2
    exact ⟨A, c, he, hr, h.bel⟩))
  have HFC := Lib.hid hfw
  clear hc hd he hbs hrs hWC hfw hsz
  go_wp2_with (first | (refine wpList_store_blk (by rfl) 24 (.tmp 9) (.tmp 34) rfl W4.heap.size #[.int .i64 70000, .int .i64 0, .int .u32 1, .bool true, .int .i64 3] (by rfl) (by rfl) 24 _ ha (by kernel_rfl) (by rfl) (ov_one _ _ _ _ _) ?_) | (refine wpList_store_blk (by rfl) 37 (.tmp 10) (.tmp 35) rfl (W4.heap.size + 1) #[.int .i64 0, .int .i64 0, .slice none 0 0] (by rfl) (by rfl) 37 _ hb (by kernel_rfl) (by rfl) (note_one _ _ _ _ _) ?_))
  rw [HWC.out]
  refine HG4.out.mono ?_
  rintro e W5 ⟨A5, c5, rfl, hr5, hb5⟩
  have H5 := Lib.hid (show Below W4.heap.size W4 W5 from HFC.out.trans (hb5.mono HFC.out.size))
  have HR5 := Lib.hid hr5
  have HKe5 := Lib.hid (HKe.out.below hb5 HKe.out.lt)
  have HKf5 := Lib.hid (HKf.out.below hb5 HKf.out.lt)
  clear ha hb hr5 hb5 HG4
  obtain ⟨ha, hb, hc, hd, he⟩ := two_cells W5 #[.int .i64 0, .int .i64 0, .int .u32 0, .bool false, .int .i64 0] #[.int .i64 2, .int .i64 1, .slice A5 2 c5]
  have hs5 : W4.heap.size + 1 < W5.heap.size := HKf5.out.lt
  have hB1 := (HK2.out.below HFW.out HK2.out.lt).below HW4.out (Nat.lt_of_lt_of_le HK2.out.lt HFW.out.size)
  have hA4 := HFW.out.trans (HW4.out.mono HFW.out.size)
  have hA5 := hA4.trans (H5.out.mono hA4.size)
  have hA6 := hA5.trans (he.mono hA5.size)
  have hW5 := HW4.out.trans (H5.out.mono HW4.out.size)
  have hW6 := hW5.trans (he.mono hW5.size)
  obtain ⟨WF, hWF⟩ : ∃ WF, ((((W5.alloc (.cells #[.int .i64 0, .int .i64 0, .int .u32 0, .bool false, .int .i64 0] 24)).alloc (.cells #[.int .i64 0, .int .i64 0, .slice none 0 0] 37)).setRow W5.heap.size #[.int .i64 0, .int .i64 0, .int .u32 0, .bool false, .int .i64 0]).setRow (W5.heap.size + 1) #[.int .i64 2, .int .i64 1, .slice A5 2 c5]) = WF := ⟨_, rfl⟩
  rw [hWF] at he hA6 hW6 hc hd
  obtain ⟨p0, p1, p2, p3, p4⟩ := blk5' (HK2.out.below hA6 HK2.out.lt)
  obtain ⟨q0, q1, q2, q3, q4⟩ := blk5' (HKc.out.below hW6 HKc.out.lt)
  have r0 := (HKd.out.below hW6 HKd.out.lt).cell 0
  obtain ⟨s0, s1, s2, s3, s4⟩ := blk5' (HKq.out.below hW6 HKq.out.lt)
  have t0 := ((HM4.out.below H5.out HM4.out.lt).below he (Nat.lt_of_lt_of_le HM4.out.lt H5.out.size)).cell 0
  obtain ⟨v0, v1, v2, v3, v4⟩ := blk5' (HKe5.out.below he HKe5.out.lt)
  have x0 := (HKf5.out.below he HKf5.out.lt).cell 0
  have y0 := hd.cell 0
  have y1 := hd.cell 1
  have y2 := hd.cell 2
  have hc1' := run_convert_rd (P := Tryd.prog) (w := WF) (l := o1.put) 25 9 5 c1 Tryd.underlying25 Tryd.underlying5 Tryd.underlying9 (((HR2.out.mono (G := (· < W2.heap.size)) (fun k hk _ => hk)).below hA6 (fun _ _ h => h)))
  have hc2' := run_convert_rd (P := Tryd.prog) (w := WF) (l := [0, 4]) 25 9 5 c5 Tryd.underlying25 Tryd.underlying5 Tryd.underlying9 ((HR5.out.mono (G := (· < W5.heap.size)) (fun k hk _ => hk)).below he (fun _ _ h => h))
  have hl1 : o1.put.length = 18 := by rw [o1_put]; rfl
  rw [hl1, o1_put] at hc1'
  have hc1 : Sem.run Tryd.prog (convert 25 9 (.slice A1 18 c1)) WF = .ok (.string { data := #[4, 253, 233, 0, 90, 10, 0, 0, 1, 8, 2, 6, 1, 4, 0, 1, 0, 1] }) WF := hc1'
  have hc2 : Sem.run Tryd.prog (convert 25 9 (.slice A5 2 c5)) WF = .ok (.string { data := #[0, 4] }) WF := hc2'
  clear hc1' hc2'
  have HCH := Lib.hid (show Calls Tryd.prog 11 #[.agg #[.int .i64 0, .int .i64 0, .int .u32 0, .bool false, .int .i64 0]] WF (fun e w' => e = .returned (.int .i64 40) ∧ Below WF.heap.size WF w') from ocheck_any ozero WF)
  have HBW := Lib.hid (HW2.out.trans (hA6.mono HW2.out.size))
  simp at r0 t0 x0 y0 y1 y2
  have HWF := Lib.hid hWF
  clear hc hd he hA4 hA5 hA6 hW5 hW6 hWF hB1 hl1
  go_upto_region 8 with (first | (refine wpList_store_blk (by rfl) 24 (.tmp 11) (.tmp 39) rfl W5.heap.size #[.int .i64 0, .int .i64 0, .int .u32 0, .bool false, .int .i64 0] (by rfl) (by rfl) 24 _ ha (by kernel_rfl) (by rfl) (ov_one _ _ _ _ _) ?_) | (refine wpList_store_blk (by rfl) 37 (.tmp 12) (.tmp 40) rfl (W5.heap.size + 1) #[.int .i64 2, .int .i64 1, .slice A5 2 c5] (by rfl) (by rfl) 37 _ hb (by kernel_rfl) (by rfl) (note_one _ _ _ _ _) ?_))
  rw [HWF.out]
  go_wp2_with (go_at_call 11; refine HCH.out.mono ?_; rintro e w' ⟨rfl, hb7⟩)
  go_ret
  exact ⟨rfl, HBW.out.trans (hb7.mono HBW.out.size)⟩
end Go.Proofs.YtbmbpcibihddaaaDoor
