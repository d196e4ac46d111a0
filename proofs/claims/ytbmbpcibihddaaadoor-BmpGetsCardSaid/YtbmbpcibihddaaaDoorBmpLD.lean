/-
  What any bytes begin with: the walk of 'BmpGets'. No condition but that bytes read as data and the table of least lengths as it is laid.
-/
import Derived.Test.YtbmbpcibihddaaaDoorBmpRG
namespace Go.Proofs.YtbmbpcibihddaaaDoor
open Go.ChangeShapes Go.WideShapes Go.ChangeAt Go.RowKit

set_option maxRecDepth 20000 in
set_option maxHeartbeats 16000000 in
theorem bgets_walk (A : Option Addr) (c : Nat) (l : List UInt8) (kind : Int) (w : World) (hlc : l.length ≤ c) (hlm : l.length ≤ 9223372036854775807) (hr : Reads w (fun _ => True) A (l.map vb)) (hT : LeastAt w) :
    Calls Tryd.prog 5 #[.slice A l.length c, .int .i64 kind] w fun e w' => e = .returned (.bool true) ∧ Below w.heap.size w w' := by
  have HR := Lib.hid (hr.mono (G := (· < w.heap.size)) (fun _ h _ => h))
  have HT := Lib.hid hT
  by_cases h5 : 5000 < l.length
  · have h5' : (5000 : Int) < (l.length : Int) := by omega
    clear hr hT hlc
    generalize l.length = ll at *
    go_enter Tryd.func5, Tryd.ntmps5
    go_wp2_with fail
    refine (bmp_lives _ HT.out).mono ?_
    rintro e w2 ⟨rfl, hb2⟩
    go_wp2_with fail
    go_ret
    exact ⟨rfl, hb2⟩
  have h5' : ¬ (5000 : Int) < (l.length : Int) := by omega
  have HG := Lib.hid (bget_any A c l _ w hlc (by omega) HR.out HT.out)
  clear hr hT
  cases hg : bget l with
  | none =>
    go_enter Tryd.func5, Tryd.ntmps5
    go_wp2_with fail
    refine HG.out.mono ?_
    rintro e w1 ⟨hno, hyes, hb1⟩
    have he := hno hg
    subst he
    have HB1 := Lib.hid hb1
    have b2 := below_a1 w1 (.cells (mon0 0).cells 45)
    have HK2 := Lib.hid (Blk.new w1 45 (mon0 0).cells)
    have HB2 := Lib.hid (hb1.trans (b2.mono hb1.size))
    have HB12 := Lib.hid b2
    have HG2 := Lib.hid (rgetB_any A c l _ (w1.alloc (.cells (mon0 0).cells 45)) hlc (by omega) (HR.out.below HB2.out (fun _ _ h => h)))
    clear hno hyes hb1 b2
    go_wp2_with (refine wpList_store_new (by rfl) 45 (.tmp 5) (.tmp 18) rfl w1 _ (mon0 0).cells rfl (by rfl) (by rfl) (by kernel_rfl) (by rfl) (mon_one _) ?_)
    refine HG2.out.mono ?_
    rintro e w3 ⟨hno, hyes, hb3⟩
    have he := hno hg
    subst he
    have b4 := below_a1 w3 (.cells (mon0 0).cells 45)
    have HK4 := Lib.hid (HK2.out.below (hb3.trans (b4.mono hb3.size)) HK2.out.lt)
    have HL4 := Lib.hid (Blk.new w3 45 (mon0 0).cells)
    have HB4 := Lib.hid (HB2.out.trans ((hb3.trans (b4.mono hb3.size)).mono HB2.out.size))
    have HB14 := Lib.hid (HB12.out.trans ((hb3.trans (b4.mono hb3.size)).mono HB12.out.size))
    have HB34 := Lib.hid b4
    clear hno hyes hb3 b4
    go_wp2_with (refine wpList_store_new (by rfl) 45 (.tmp 8) (.tmp 24) rfl w3 _ (mon0 0).cells rfl (by rfl) (by rfl) (by kernel_rfl) (by rfl) (mon_one _) ?_)
    refine (bmp_lives _ (HT.out.below HB4.out)).mono ?_
    rintro e w5 ⟨rfl, hb5⟩
    have HK5 := Lib.hid (HK4.out.below hb5 HK4.out.lt)
    have HL5 := Lib.hid (HL4.out.below hb5 HL4.out.lt)
    have HB5 := Lib.hid (HB4.out.trans (hb5.mono HB4.out.size))
    have HB15 := Lib.hid (HB14.out.trans (hb5.mono HB14.out.size))
    have HB35 := Lib.hid (HB34.out.trans (hb5.mono HB34.out.size))
    have HX5 : (mon0 0).Rd w5 (fun _ => True) := ⟨.nil, .nil, by simp [mon0], by simp [mon0], by simp [mon0], by simp [mon0], by simp [mon0]⟩
    have HY5 := HX5
    have HS := rsame_any (mon0 0) (mon0 0) w5 _ _ HX5 HY5
    have hdd : decide ((mon0 0).d = (mon0 0).d) = true := by simp
    rw [hdd] at HS
    have HS := Lib.hid HS
    clear hb5 HX5 HY5 hdd
    simp only [MoV.val] at HS
    go_wp2_with (first | (refine wpList_load_blk (by rfl) 45 (.tmp 5) rfl w1.heap.size (by rfl) 45 (mon0 0).cells _ HK5.out Tryd.underlying45 rfl (by kernel_rfl) ?_) | (refine wpList_load_blk (by rfl) 45 (.tmp 8) rfl w3.heap.size (by rfl) 45 (mon0 0).cells _ HL5.out Tryd.underlying45 rfl (by kernel_rfl) ?_))
    refine HS.out.mono ?_
    rintro e w6 ⟨rfl, hb6⟩
    have HB6 := Lib.hid (HB5.out.trans (hb6.mono HB5.out.size))
    have HW6 := Lib.hid (whole_any A c l _ kind w6 hlc hlm (HR.out.below HB6.out (fun _ _ h => h)) (HT.out.below HB6.out))
    clear hb6
    go_wp2_with fail
    refine HW6.out.mono ?_
    rintro e w7 ⟨rfl, hb7⟩
    have HB7 := Lib.hid (HB6.out.trans (hb7.mono HB6.out.size))
    have HW7 := Lib.hid (rwhole_any A c l _ kind w7 hlc hlm (HR.out.below HB7.out (fun _ _ h => h)))
    clear hb7
    go_wp2_with fail
    refine HW7.out.mono ?_
    rintro e w8 ⟨rfl, hb8⟩
    have HB8 := Lib.hid (HB7.out.trans (hb8.mono HB7.out.size))
    clear hb8
    go_wp2_with fail
    go_ret
    refine ⟨?_, HB8.out⟩
    first | rfl | simp
  | some z =>
    obtain ⟨d, n⟩ := z
    go_enter Tryd.func5, Tryd.ntmps5
    go_wp2_with fail
    refine HG.out.mono ?_
    rintro e w1 ⟨hno, hyes, hb1⟩
    obtain ⟨x, hxd, rfl, hxr⟩ := hyes _ _ hg
    have HB1 := Lib.hid hb1
    have HX1 := Lib.hid (hxr.mono (G := (· < w1.heap.size)) (fun _ h _ => h))
    have b2 := below_a1 w1 (.cells x.cells 45)
    have HK2 := Lib.hid (Blk.new w1 45 x.cells)
    have HB2 := Lib.hid (hb1.trans (b2.mono hb1.size))
    have HB12 := Lib.hid b2
    have HG2 := Lib.hid (rgetB_any A c l _ (w1.alloc (.cells x.cells 45)) hlc (by omega) (HR.out.below HB2.out (fun _ _ h => h)))
    clear hno hyes hb1 b2
    simp only [MoV.val]
    go_wp2_with (refine wpList_store_new (by rfl) 45 (.tmp 5) (.tmp 18) rfl w1 _ x.cells rfl (by rfl) (by rfl) (by kernel_rfl) (by rfl) (mon_one _) ?_)
    refine HG2.out.mono ?_
    rintro e w3 ⟨hno, hyes, hb3⟩
    obtain ⟨y, hyd, rfl, hyr⟩ := hyes _ _ hg
    have HY3 := Lib.hid (hyr.mono (G := (· < w3.heap.size)) (fun _ h _ => h))
    have b4 := below_a1 w3 (.cells y.cells 45)
    have HK4 := Lib.hid (HK2.out.below (hb3.trans (b4.mono hb3.size)) HK2.out.lt)
    have HL4 := Lib.hid (Blk.new w3 45 y.cells)
    have HB4 := Lib.hid (HB2.out.trans ((hb3.trans (b4.mono hb3.size)).mono HB2.out.size))
    have HB14 := Lib.hid (HB12.out.trans ((hb3.trans (b4.mono hb3.size)).mono HB12.out.size))
    have HB34 := Lib.hid b4
    clear hno hyes hb3 b4
    simp only [MoV.val]
    go_wp2_with (refine wpList_store_new (by rfl) 45 (.tmp 8) (.tmp 24) rfl w3 _ y.cells rfl (by rfl) (by rfl) (by kernel_rfl) (by rfl) (mon_one _) ?_)
    refine (bmp_lives _ (HT.out.below HB4.out)).mono ?_
    rintro e w5 ⟨rfl, hb5⟩
    have HK5 := Lib.hid (HK4.out.below hb5 HK4.out.lt)
    have HL5 := Lib.hid (HL4.out.below hb5 HL4.out.lt)
    have HB5 := Lib.hid (HB4.out.trans (hb5.mono HB4.out.size))
    have HB15 := Lib.hid (HB14.out.trans (hb5.mono HB14.out.size))
    have HB35 := Lib.hid (HB34.out.trans (hb5.mono HB34.out.size))
    have HX5 := HX1.out.below HB15.out (fun _ _ h => h)
    have HY5 := HY3.out.below HB35.out (fun _ _ h => h)
    have HS := rsame_any x y w5 _ _ HX5 HY5
    have hdd : decide (x.d = y.d) = true := by rw [hxd, hyd]; simp
    rw [hdd] at HS
    have HS := Lib.hid HS
    clear hb5 HX5 HY5 hdd
    simp only [MoV.val] at HS
    go_wp2_with (first | (refine wpList_load_blk (by rfl) 45 (.tmp 5) rfl w1.heap.size (by rfl) 45 x.cells _ HK5.out Tryd.underlying45 rfl (by kernel_rfl) ?_) | (refine wpList_load_blk (by rfl) 45 (.tmp 8) rfl w3.heap.size (by rfl) 45 y.cells _ HL5.out Tryd.underlying45 rfl (by kernel_rfl) ?_))
    refine HS.out.mono ?_
    rintro e w6 ⟨rfl, hb6⟩
    have HB6 := Lib.hid (HB5.out.trans (hb6.mono HB5.out.size))
    have HW6 := Lib.hid (whole_any A c l _ kind w6 hlc hlm (HR.out.below HB6.out (fun _ _ h => h)) (HT.out.below HB6.out))
    clear hb6
    go_wp2_with fail
    refine HW6.out.mono ?_
    rintro e w7 ⟨rfl, hb7⟩
    have HB7 := Lib.hid (HB6.out.trans (hb7.mono HB6.out.size))
    have HW7 := Lib.hid (rwhole_any A c l _ kind w7 hlc hlm (HR.out.below HB7.out (fun _ _ h => h)))
    clear hb7
    go_wp2_with fail
    refine HW7.out.mono ?_
    rintro e w8 ⟨rfl, hb8⟩
    have HB8 := Lib.hid (HB7.out.trans (hb8.mono HB7.out.size))
    clear hb8
    go_wp2_with fail
    go_ret
    refine ⟨?_, HB8.out⟩
    first | rfl | simp
end Go.Proofs.YtbmbpcibihddaaaDoor
