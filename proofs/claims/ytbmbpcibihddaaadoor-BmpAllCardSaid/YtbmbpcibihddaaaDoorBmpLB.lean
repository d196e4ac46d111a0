/-
  What is monitored: what lives. No condition but that the table of least lengths reads as it is laid.
-/
import Derived.Test.YtbmbpcibihddaaaDoorBmpLA
import Derived.Test.YtbmbpcibihddaaaDoorBmpX
namespace Go.Proofs.YtbmbpcibihddaaaDoor
open Go.ChangeShapes Go.WideShapes Go.ChangeAt Go.RowKit

theorem own_str2 {w : World} {F : Nat → Prop} {A : Option Addr} {c n : Nat} {l : List UInt8} (hr : Reads w F A (l.map vb)) (hn : l.length = n) : (convert 25 9 (.slice A n c)).run Tryd.prog w = .ok (.string (str l)) w := by
  subst hn
  exact run_convert_rd (P := Tryd.prog) 25 9 5 c Tryd.underlying25 Tryd.underlying5 Tryd.underlying9 hr
set_option maxRecDepth 20000 in
set_option maxHeartbeats 8000000 in
theorem bmp_lives (w : World) (hT : LeastAt w) : Calls Tryd.prog 16 #[] w fun e w' => e = .returned (.bool true) ∧ Below w.heap.size w w' := by
  obtain ⟨i0, hi0, hz0, hz1, hz2⟩ := info_parts infoU8
  have HT := Lib.hid hT
  clear hT
  go_enter Tryd.func16, Tryd.ntmps16
  go_wp2_with (refine wpList_make_w _ (by rfl) (.const (.int .i64 4)) (.const (.int .i64 4)) 25 rfl w.heap.size 5 i0 (.int .u8 0) 1 Tryd.underlying25 hi0 hz0 hz1 .i64 .i64 _ _ 4 (by rfl) (by rfl) rfl rfl (by rw [hz2]; omega) (by unfold maxLen; omega) (Nat.le_refl _) ?_)
  intro w1 o1 g1
  rw [toList_madeCells_one, replicate_vb] at o1
  have HB1 := Lib.hid (below_append (Below.refl w.heap.size w) (Nat.le_refl _) (own_nil w w.heap.size 5 1) g1)
  obtain ⟨A1', c1', hv1, -, -, -, rd1⟩ := own_reads o1
  injection hv1 with e1 e2 e3
  subst e1 e3
  have HU := rfput_ok ⟨2, some ⟨w.heap.size, 0, none⟩, 4, List.replicate 4 0⟩ w1 _ (live_mok _ _) rd1
  rw [live_u, show liveU.length = 23 from rfl] at HU
  have HU := Lib.hid HU
  clear o1 g1 rd1
  go_wp2_with fail
  refine HU.out.mono ?_
  rintro e w2 ⟨v2, rfl, o2, b2⟩
  obtain ⟨A2, c2, hv2, hlc2, hcm2, -, rd2⟩ := own_reads o2
  subst hv2
  have HB2 := Lib.hid (HB1.out.trans (b2.mono HB1.out.size))
  have HM := Lib.hid (show (#[.int .i64 0, .int .u32 1, .int .u32 2, .int .i64 3, .int .i64 4, .int .i64 0, .int .u32 0, .slice none 0 0, .slice A2 23 c2, .string (str [])] : Array Value) = (liveM A2 c2).cells from rfl)
  have HR2 := Lib.hid (show (liveM A2 c2).Rd w2 (· < w2.heap.size) from ⟨.nil, rd2.mono (fun _ h _ => h), by simp [liveM], by simp [liveM, liveU], by simp [liveM], by show liveU.length ≤ c2; exact hlc2, by simp [liveM]⟩)
  have b3 := below_a1 w2 (.cells (liveM A2 c2).cells 45)
  have HK3 := Lib.hid (Blk.new w2 45 (liveM A2 c2).cells)
  have HR3 := Lib.hid (HR2.out.alloc (.cells (liveM A2 c2).cells 45))
  have HB3 := Lib.hid (HB2.out.trans (b3.mono HB2.out.size))
  have HP := bput_ok (liveM A2 c2) (w2.alloc (.cells (liveM A2 c2).cells 45)) _ HR3.out (HT.out.below HB3.out) live_ok (show MD.u32 liveD from ⟨by decide, by decide, by decide⟩)
  rw [show (liveM A2 c2).d = liveD from rfl, live_len] at HP
  have HP := Lib.hid HP
  clear o2 b2 rd2 b3 hlc2 hcm2 HU
  go_wp2_with (first | (refine wpList_store_new (by rfl) 45 (.tmp 2) (.tmp 20) rfl w2 _ (liveM A2 c2).cells rfl (by rfl) (by rfl) (by kernel_rfl) (by rfl) (mon_one _) ?_) | (refine wpList_load_blk (by rfl) 45 (.tmp 2) rfl w2.heap.size (by rfl) 45 (liveM A2 c2).cells _ HK3.out Tryd.underlying45 rfl (by kernel_rfl) ?_))
  refine HP.out.mono ?_
  rintro e w4 ⟨A4, c4, rfl, o4, b4⟩
  obtain ⟨A4', c4', hv4, hlc4, hcm4, -, rd4⟩ := own_reads o4
  injection hv4 with e1 e2 e3
  subst e1 e3
  have HLP := Lib.hid live_len
  have HGET := Lib.hid live_get
  have HALL := Lib.hid live_all
  have HCUT := Lib.hid live_cut
  generalize liveD.put = lp at *
  have hlp : lp.length = 71 := HLP.out
  have HK4 := Lib.hid (HK3.out.below b4 HK3.out.lt)
  have HR4 := Lib.hid (HR3.out.below b4 (fun b hl _ => hl))
  have HB4 := Lib.hid (HB3.out.trans (b4.mono HB3.out.size))
  have HRB := Lib.hid (rd4.mono (G := (· < w4.heap.size)) (fun b hl _ => hl))
  have HF4 := Lib.hid fun (W : World) (h : Below w4.heap.size w4 W) => HB4.out.trans (h.mono HB4.out.size)
  have b5 := below_a1 w4 (.cells #[] 5)
  have hE5 : (w4.alloc (.cells #[] 5)).ownsRow w4.heap.size 5 1 (.slice (some ⟨w4.heap.size, 0, none⟩) 0 0) 0 (([] : List UInt8).map vb) := own_empty _ _ _ _ _ (Nat.le_refl _) (heap_alloc_new w4 _)
  have hr5 := (HRB.out.below b5 (fun _ _ h => h)).mono (G := fun _ => True) (fun _ _ _ => trivial)
  clear o4 b4 rd4 HP HK3 HR3 HB3 HR2
  go_wp2_with (refine wpList_append_rd _ (by rfl) (.tmp 30) (.tmp 31) 25 rfl w4.heap.size 5 i0 (.int .u8 0) 1 1 Tryd.underlying25 hi0 hz0 hz1 hz2 rfl (by omega) _ 0 ((([] : List UInt8)).map vb) (by rfl) hE5 (fun _ => True) A4 71 c4 ((lp).map vb) (by rfl) (by simp [*]) hr5 (vb_one _) (by unfold maxLen; omega) (by omega) (by simp) ?_)
  intro v5 w5 hown5 hg5 _
  obtain ⟨A5, c5, hv5, -, -, -, -⟩ := own_reads hown5
  subst hv5
  have b5' := below_append b5 b5.size hE5 hg5
  have b6 := below_a1 w5 (.cells #[.int .u8 9] 5)
  have HB6 := Lib.hid (b5'.trans (b6.mono b5'.size))
  have hown6 : (w5.alloc (.cells #[.int .u8 9] 5)).ownsRow w4.heap.size 5 1 (.slice A5 71 c5) 71 (lp.map vb) := own_only hown5 (S := fun _ => False) (Only.of_below b6) (fun _ _ h => h)
  have hr6 : Reads (w5.alloc (.cells #[.int .u8 9] 5)) (fun _ => True) (some ⟨w5.heap.size, 0, none⟩) (([9] : List UInt8).map vb) := (reads_of_blk (Blk.new w5 5 #[.int .u8 9])).mono (fun _ _ _ => trivial)
  have hw6 : w4.heap.size ≤ (w5.alloc (.cells #[.int .u8 9] 5)).heap.size := HB6.out.size
  clear hown5 hg5 b5' b6 hE5 hr5 b5
  go_wp2_with (refine wpList_append_rd _ (by rfl) (.tmp 32) (.tmp 33) 25 rfl w4.heap.size 5 i0 (.int .u8 0) 1 1 Tryd.underlying25 hi0 hz0 hz1 hz2 rfl (by omega) _ 71 ((lp).map vb) (by rfl) hown6 (fun _ => True) (some ⟨w5.heap.size, 0, none⟩) 1 1 ((([9] : List UInt8)).map vb) (by rfl) (by simp [*]) hr6 (vb_one _) (by unfold maxLen; omega) (by omega) hw6 ?_)
  intro v6 w6 hown6' hg6 _
  obtain ⟨A6, c6, hv6, hlc6, -, -, rd6⟩ := own_reads hown6'
  subst hv6
  have HB6' := Lib.hid (below_append HB6.out HB6.out.size hown6 hg6)
  have rd6' : Reads w6 (fun _ => True) A6 ((lp ++ [9]).map vb) := by rw [List.map_append]; exact rd6.mono (fun _ _ _ => trivial)
  have HG := bget_any A6 c6 (lp ++ [9]) _ w6 (by simp [hlp]; exact hlc6) (by simp [hlp]) rd6' (HT.out.below (HF4.out _ HB6'.out))
  have h72 : (lp ++ ([9] : List UInt8)).length = 72 := by simp [hlp]
  rw [h72] at HG
  have HG := Lib.hid HG
  clear hown6 hown6' hg6 hr6 hw6 rd6 rd6' hlc6
  go_wp2_with fail
  refine HG.out.mono ?_
  rintro e w7 ⟨-, hyes, hb7⟩
  obtain ⟨mx, hmd, rfl, hmr⟩ := hyes _ _ HGET.out
  have HB7 := Lib.hid (HB6'.out.trans (hb7.mono HB6'.out.size))
  have HMX := Lib.hid hmd
  have HMR := Lib.hid (hmr.mono (G := fun k => w4.heap.size ≤ k) (fun k _ hk => Nat.le_trans HB6'.out.size hk))
  have b8 := below_a1 w7 (.cells mx.cells 45)
  have HKX := Lib.hid (Blk.new w7 45 mx.cells)
  have HB8 := Lib.hid (HB7.out.trans (b8.mono HB7.out.size))
  have HMR8 := Lib.hid (HMR.out.alloc (.cells mx.cells 45))
  have HP2 := bput_ok (mon0 4) (w7.alloc (.cells mx.cells 45)) (fun _ => True) ⟨.nil, .nil, by simp [mon0], by simp [mon0], by simp [mon0], by simp [mon0], by simp [mon0]⟩ (HT.out.below (HF4.out _ HB8.out)) live_4 (show MD.u32 (mon0 4).d from ⟨by decide, by decide, by decide⟩)
  rw [show (mon0 4).d.put.length = 10 from by rw [live_c]; rfl] at HP2
  have HP2 := Lib.hid HP2
  clear hyes hmd hmr hb7 b8 HG
  simp only [MoV.val] at HP2 ⊢
  go_wp2_with (refine wpList_store_new (by rfl) 45 (.tmp 5) (.tmp 36) rfl w7 _ mx.cells rfl (by rfl) (by rfl) (by kernel_rfl) (by rfl) (mon_one _) ?_)
  refine HP2.out.mono ?_
  rintro e w9 ⟨A9, c9, rfl, o9, b9⟩
  obtain ⟨A9', c9', hv9, hlc9, -, -, rd9⟩ := own_reads o9
  injection hv9 with e1 e2 e3
  subst e1 e3
  have HLC := Lib.hid (show (mon0 4).d.put.length = 10 from by rw [live_c]; rfl)
  have HCE := Lib.hid live_c
  generalize (mon0 4).d.put = lc at *
  have hlc : lc.length = 10 := HLC.out
  have HB9 := Lib.hid (HB8.out.trans (b9.mono HB8.out.size))
  have HKX9 := Lib.hid (HKX.out.below b9 HKX.out.lt)
  have HMR9 := Lib.hid (HMR8.out.below b9 (fun b hl _ => hl))
  have HRC := Lib.hid (rd9.mono (G := fun k => w4.heap.size ≤ k ∧ k < w9.heap.size) (fun b hl hb => ⟨Nat.le_trans HB8.out.size hb.1, hl⟩))
  have HF9 := Lib.hid fun (W : World) (h : Below w9.heap.size w9 W) => HB9.out.trans (h.mono HB9.out.size)
  have b5 := below_a1 w9 (.cells #[] 5)
  have hE5 : (w9.alloc (.cells #[] 5)).ownsRow w9.heap.size 5 1 (.slice (some ⟨w9.heap.size, 0, none⟩) 0 0) 0 (([] : List UInt8).map vb) := own_empty _ _ _ _ _ (Nat.le_refl _) (heap_alloc_new w9 _)
  have hr5 := (HRB.out.below (HF9.out _ b5) (fun _ _ h => h)).mono (G := fun _ => True) (fun _ _ _ => trivial)
  clear o9 b9 rd9 HP2 HKX HMR8 HMR
  go_wp2_with (refine wpList_append_rd _ (by rfl) (.tmp 45) (.tmp 46) 25 rfl w9.heap.size 5 i0 (.int .u8 0) 1 1 Tryd.underlying25 hi0 hz0 hz1 hz2 rfl (by omega) _ 0 ((([] : List UInt8)).map vb) (by rfl) hE5 (fun _ => True) A4 71 c4 ((lp).map vb) (by rfl) (by simp [*]) hr5 (vb_one _) (by unfold maxLen; omega) (by omega) (by simp) ?_)
  intro v10 w10 hown10 hg10 _
  obtain ⟨A10, c10, hv10, -, -, -, -⟩ := own_reads hown10
  subst hv10
  have b10 := below_append b5 b5.size hE5 hg10
  have HB10 := Lib.hid b10
  have hr10 := (HRC.out.below b10 (fun _ _ h => h.2)).mono (G := fun _ => True) (fun _ _ _ => trivial)
  have hw10 : w9.heap.size ≤ w10.heap.size := b10.size
  clear hg10 hE5 hr5 b5 b10
  go_wp2_with (refine wpList_append_rd _ (by rfl) (.tmp 47) (.tmp 48) 25 rfl w9.heap.size 5 i0 (.int .u8 0) 1 1 Tryd.underlying25 hi0 hz0 hz1 hz2 rfl (by omega) _ 71 ((lp).map vb) (by rfl) hown10 (fun _ => True) A9 10 c9 ((lc).map vb) (by rfl) (by simp [*]) hr10 (vb_one _) (by unfold maxLen; omega) (by omega) hw10 ?_)
  intro v11 w11 hown11 hg11 _
  obtain ⟨A11, c11, hv11, hlc11, -, -, rd11⟩ := own_reads hown11
  subst hv11
  have HB11 := Lib.hid (below_append HB10.out HB10.out.size hown10 hg11)
  have rd11' : Reads w11 (fun _ => True) A11 ((lp ++ lc).map vb) := by rw [List.map_append]; exact rd11.mono (fun _ _ _ => trivial)
  have h81 : (lp ++ lc).length = 81 := by simp [hlp, hlc]
  have HA := ball_any A11 c11 (lp ++ lc) _ w11 (by rw [h81]; exact hlc11) (by rw [h81]; omega) rd11' (HT.out.below (HF4.out _ (HF9.out _ HB11.out)))
  rw [h81] at HA
  have HA := Lib.hid HA
  clear hown10 hown11 hg11 hr10 hw10 rd11 rd11' hlc11 h81
  go_wp2_with fail
  refine HA.out.mono ?_
  rintro e w12 ⟨-, hyes, hb12⟩
  obtain ⟨vs, vv, hvs, rfl, hown12, -⟩ := hyes _ HALL.out
  have hvl : vs.length = 2 := by have := congrArg List.length hvs; simpa using this
  have hvv : ∃ Av cv, vv = .slice Av 2 cv := by
    rcases hown12.2 with ⟨rfl, h0⟩ | ⟨g, cap, cur, rfl, -⟩
    · omega
    · exact ⟨_, _, by rw [hvl]⟩
  obtain ⟨Av, cv, rfl⟩ := hvv
  have HB12 := Lib.hid (HB11.out.trans (hb12.mono HB11.out.size))
  have hr12 := (HRB.out.below (HF9.out _ HB12.out) (fun _ _ h => h)).take 50
  rw [← List.map_take] at hr12
  have h50 : (lp.take 50).length = 50 := by simp [hlp]
  have hc50 : 50 ≤ c4 := by omega
  have HG := bget_any A4 c4 (lp.take 50) _ w12 (by rw [h50]; omega) (by rw [h50]; omega) hr12 (HT.out.below (HF4.out _ (HF9.out _ HB12.out)))
  rw [h50] at HG
  have HG := Lib.hid HG
  clear hyes hvs hown12 hvl hb12 HA hr12 h50
  go_wp2_with fail
  refine HG.out.mono ?_
  rintro e w13 ⟨hno, -, hb13⟩
  have he := hno HCUT.out
  subst he
  have HB13 := Lib.hid (HB12.out.trans (hb13.mono HB12.out.size))
  have b14 := below_a1 w13 (.cells (mon0 0).cells 45)
  have HB14 := Lib.hid (HB13.out.trans (b14.mono HB13.out.size))
  clear hno hb13 b14 HG
  have HK14 := Lib.hid (HK4.out.below (HF9.out _ HB14.out) HK4.out.lt)
  have hcq := HK14.out.cell 9
  have hcf := HK14.out.frozen 9
  have hx14 := HK14.out.set_ 9 (.string ⟨#[120]⟩)
  have ho14 : Only (· = w2.heap.size) (w13.alloc (.cells (mon0 0).cells 45)) ((w13.alloc (.cells (mon0 0).cells 45)).setCell ⟨w2.heap.size, 9, none⟩ (.string ⟨#[120]⟩)) := (Only.refl (· = w2.heap.size) _).setCell (p := ⟨w2.heap.size, 9, none⟩) (fun _ => rfl) _
  have h24 : w2.heap.size < w4.heap.size := HK4.out.lt
  have h49 : w4.heap.size ≤ w9.heap.size := HB9.out.size
  have hww : w.heap.size ≤ w2.heap.size := HB2.out.size
  have HBX := Lib.hid ((HF4.out _ (HF9.out _ HB14.out)).trans (ho14.below (B := w.heap.size) (HF4.out _ (HF9.out _ HB14.out)).size (fun k hk => by omega)))
  have HTX := Lib.hid (HT.out.below HBX.out)
  have h57 : w2.heap.size < w7.heap.size := Nat.lt_of_lt_of_le h24 HB7.out.size
  have hmx := HMX.out
  have htm : mx.time = 4 := congrArg MD.time hmx
  have has : mx.asn = 3 := congrArg MD.asn hmx
  have hcm : mx.came = liveU := congrArg MD.came hmx
  have HKX14 := HKX9.out.below HB14.out HKX9.out.lt
  have HKXX := HKX14.only ho14 (by omega)
  have m3 : ((w13.alloc (.cells (mon0 0).cells 45)).setCell ⟨w2.heap.size, 9, none⟩ (.string ⟨#[120]⟩)).cell? ⟨w7.heap.size, 3, none⟩ = some (.int .i64 3) := by rw [HKXX.cell, ← has]; rfl
  have m4 : ((w13.alloc (.cells (mon0 0).cells 45)).setCell ⟨w2.heap.size, 9, none⟩ (.string ⟨#[120]⟩)).cell? ⟨w7.heap.size, 4, none⟩ = some (.int .i64 4) := by rw [HKXX.cell, ← htm]; rfl
  have m8 : ((w13.alloc (.cells (mon0 0).cells 45)).setCell ⟨w2.heap.size, 9, none⟩ (.string ⟨#[120]⟩)).cell? ⟨w7.heap.size, 8, none⟩ = some (.slice mx.cA 23 mx.cc) := by rw [HKXX.cell, show (23 : Nat) = mx.came.length from by rw [hcm]; rfl]; rfl
  have HRX := (HMR9.out.below HB14.out (fun b hl _ => hl)).only ho14 (fun b _ hb e => by omega)
  have s1 := own_str2 (c := mx.cc) HRX.c (n := 23) (by rw [hcm]; rfl)
  rw [hcm] at s1
  have HRU := (HR4.out.below (HF9.out _ HB14.out) (fun b hl _ => hl)).only ho14 (fun b _ hb e => by omega)
  have s2 := own_str2 (c := c2) HRU.c (n := 23) rfl
  have hrc := (HRC.out.below HB14.out (fun _ _ h => h.2)).only ho14 (fun b _ hb e => by omega)
  have s3 := own_str2 (c := c9) hrc (n := 10) hlc
  rw [HCE.out] at s3
  have s3' : (convert 25 9 (.slice A9 10 c9)).run Tryd.prog ((w13.alloc (.cells (mon0 0).cells 45)).setCell ⟨w2.heap.size, 9, none⟩ (.string ⟨#[120]⟩)) = .ok (.string ⟨#[3, 0, 0, 0, 10, 4, 0, 0, 0, 0]⟩) ((w13.alloc (.cells (mon0 0).cells 45)).setCell ⟨w2.heap.size, 9, none⟩ (.string ⟨#[120]⟩)) := s3
  have s2' : (convert 25 9 (.slice A2 23 c2)).run Tryd.prog ((w13.alloc (.cells (mon0 0).cells 45)).setCell ⟨w2.heap.size, 9, none⟩ (.string ⟨#[120]⟩)) = .ok (.string (str liveU)) ((w13.alloc (.cells (mon0 0).cells 45)).setCell ⟨w2.heap.size, 9, none⟩ (.string ⟨#[120]⟩)) := s2
  have hqq : ((str liveU).toList == (str liveU).toList) = true := by simp
  have HX := Lib.hid (show Blk ((w13.alloc (.cells (mon0 0).cells 45)).setCell ⟨w2.heap.size, 9, none⟩ (.string ⟨#[120]⟩)) w2.heap.size 45 (liveX A2 c2).cells from hx14)
  have HRUX := Lib.hid (show (liveX A2 c2).Rd ((w13.alloc (.cells (mon0 0).cells 45)).setCell ⟨w2.heap.size, 9, none⟩ (.string ⟨#[120]⟩)) (· < w2.heap.size) from ⟨HRU.s, HRU.c, HRU.sl, HRU.cl, HRU.sk, HRU.ck, by simp [liveX]⟩)
  have HCK := bcheck_any (liveX A2 c2) ((w13.alloc (.cells (mon0 0).cells 45)).setCell ⟨w2.heap.size, 9, none⟩ (.string ⟨#[120]⟩)) _ HRUX.out HTX.out
  rw [MD.err_no (live_x A2 c2)] at HCK
  have HCK := Lib.hid HCK
  have HW := Lib.hid fun (W : World) (h : Below ((w13.alloc (.cells (mon0 0).cells 45)).setCell ⟨w2.heap.size, 9, none⟩ (.string ⟨#[120]⟩)).heap.size ((w13.alloc (.cells (mon0 0).cells 45)).setCell ⟨w2.heap.size, 9, none⟩ (.string ⟨#[120]⟩)) W) (k : Int) => whole_any A2 c2 liveU _ k W (HRUX.out.ck) (by simp [liveU]) ((HRUX.out.below h (fun b hl _ => hl)).c) (HTX.out.below (h.mono (Nat.le_refl _)))
  have hct : (w13.alloc (.cells (mon0 0).cells 45)).cell? ⟨w2.heap.size, 9, none⟩ = some (.string ⟨#[]⟩) := hcq
  have HXS := Lib.hid (HBX.out)
  clear hcq hx14 ho14 HKX14 HKXX HRX HRU hrc s3 s2 hmx htm has hcm HKX9 HMR9 HRC HR4 HRB HK4 HCE HLC
  generalize str liveU = qu at *
  simp only [MoV.val] at HCK
  go_wp2_with (first | (refine wpList_store_new (by rfl) 45 (.tmp 12) (.tmp 57) rfl w13 _ (mon0 0).cells rfl (by rfl) (by rfl) (by kernel_rfl) (by rfl) (mon_one _) ?_) | (refine wpList_load_blk (by rfl) 45 (.tmp 2) rfl w2.heap.size (by rfl) 45 (liveX A2 c2).cells _ HX.out Tryd.underlying45 rfl (by kernel_rfl) ?_))
  refine HCK.out.mono ?_
  rintro e w15 ⟨rfl, hb15⟩
  have HW2 := HW.out w15 hb15 2
  rw [live_w2] at HW2
  have HW2 := Lib.hid HW2
  have HB15 := Lib.hid (HXS.out.trans (hb15.mono HXS.out.size))
  have HB15' := Lib.hid hb15
  clear hb15
  go_wp2_with fail
  refine HW2.out.mono ?_
  rintro e w16 ⟨rfl, hb16⟩
  have HW1 := HW.out w16 (HB15'.out.trans (hb16.mono HB15'.out.size)) 1
  rw [live_w1] at HW1
  have HW1 := Lib.hid HW1
  have HB16 := Lib.hid (HB15.out.trans (hb16.mono HB15.out.size))
  clear hb16
  go_wp2_with fail
  refine HW1.out.mono ?_
  rintro e w17 ⟨rfl, hb17⟩
  have HB17 := Lib.hid (HB16.out.trans (hb17.mono HB16.out.size))
  clear hb17
  go_wp2_with fail
  go_ret
  exact ⟨rfl, HB17.out⟩
end Go.Proofs.YtbmbpcibihddaaaDoor
