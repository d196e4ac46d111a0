/-
  What any body says may be said, and is got again: the walk of 'OpenWhole'. Under: the body reads as bytes.
-/
import Derived.Test.YtbmbpcibihddaaaOpS
namespace Go.Proofs.Ytbmbpcibihddaaa
open Go.ChangeShapes Go.WideShapes Go.ChangeAt Go.RowKit

set_option maxRecDepth 20000 in
set_option maxHeartbeats 8000000 in
theorem whole_walk (A : Option Addr) (cap : Nat) (b : List UInt8) (F : Nat → Prop) (w : World) (hl : b.length ≤ 9223372036854775807) (hlc : b.length ≤ cap) (hr : Reads w F A (b.map vb)) :
    Calls Try.prog 4 #[.slice A b.length cap] w fun e w' => e = .returned (.bool true) ∧ Below w.heap.size w w' := by
  by_cases h5 : 5000 < b.length
  · go_enter Try.func4, Try.ntmps4
    go_wp2_with fail
    refine (open_lives _).mono ?_
    rintro e w2 ⟨rfl, hb2⟩
    go_wp2_with fail
    go_ret
    exact ⟨rfl, hb2⟩
  cases hO : openL b with
  | inl s =>
    have HG := Lib.hid (get_no' w A cap b F (by omega) hlc hr hO)
    clear hO hr
    go_enter Try.func4, Try.ntmps4
    go_wp2_with fail
    refine HG.out.mono ?_
    rintro e w4 ⟨A9, c9, n9, rfl, hb4⟩
    have HB4 := Lib.hid hb4
    clear hb4
    obtain ⟨ha, hb, hc, hd, he⟩ := two_cells w4 #[.int .i64 0, .int .i64 0, .int .u32 0, .bool false, .int .i64 0] #[.int .i64 2, .int .i64 s, .slice A9 n9 c9]
    obtain ⟨wF, hwF⟩ : ∃ wF, ((((w4.alloc (.cells #[.int .i64 0, .int .i64 0, .int .u32 0, .bool false, .int .i64 0] 24)).alloc (.cells #[.int .i64 0, .int .i64 0, .slice none 0 0] 30)).setRow w4.heap.size #[.int .i64 0, .int .i64 0, .int .u32 0, .bool false, .int .i64 0]).setRow (w4.heap.size + 1) #[.int .i64 2, .int .i64 s, .slice A9 n9 c9]) = wF := ⟨_, rfl⟩
    rw [hwF] at hc hd he
    have HWF := Lib.hid hwF
    have HBF := Lib.hid (HB4.out.trans (he.mono HB4.out.size))
    have HD := Lib.hid hd
    clear hc hd he hwF
    go_wp2_with (first | (refine wpList_store_blk (by rfl) 24 (.tmp 3) (.tmp 16) rfl w4.heap.size #[.int .i64 0, .int .i64 0, .int .u32 0, .bool false, .int .i64 0] (by rfl) (by rfl) 24 _ ha (by kernel_rfl) (by rfl) (ov_one _ _ _ _ _) ?_) | (refine wpList_store_blk (by rfl) 30 (.tmp 4) (.tmp 17) rfl (w4.heap.size + 1) #[.int .i64 2, .int .i64 s, .slice A9 n9 c9] (by rfl) (by rfl) 30 _ hb (by kernel_rfl) (by rfl) (note_one _ _ _ _ _) ?_))
    rw [HWF.out]
    refine (open_lives _).mono ?_
    rintro e w5 ⟨rfl, hb5⟩
    have hd5 := HD.out.below hb5 HD.out.lt
    have q0 := hd5.cell 0
    simp at q0
    have HB5 := Lib.hid (HBF.out.trans (hb5.mono HBF.out.size))
    clear hb5 ha hb hd5
    go_wp2_with fail
    refine (open_lives _).mono ?_
    rintro e w6 ⟨rfl, hb6⟩
    have hs4 : w4.heap.size + 1 < w5.heap.size := block_lt_of_cell q0
    have q1 := (hb6.cell (p := ⟨w4.heap.size + 1, 0, none⟩) hs4).trans q0
    have HB6 := Lib.hid (HB5.out.trans (hb6.mono HB5.out.size))
    clear hb6 q0
    go_wp2_with fail
    go_ret
    exact ⟨rfl, HB6.out⟩
  | inr o =>
    have HG := Lib.hid (get_yes w A cap b F (by omega) hlc hr hO)
    obtain ⟨hok, hi32⟩ := got_ok hO
    have HPT := Lib.hid fun W => oput_ok o W hok hi32
    have HGG := Lib.hid (put_get o hok hi32)
    have HCK := Lib.hid fun W => ocheck_any o W
    rw [OV.err_ok hok] at HCK
    have hpl : o.put.length ≤ 30 := by have h1 := o.put_length; have h2 := o.caps_length; omega
    clear hO hr hok
    generalize o.put = pb at *
    obtain ⟨asn, hold, id, four, paths⟩ := o
    simp only [OV.val, OV.cells] at *
    go_enter Try.func4, Try.ntmps4
    go_wp2_with fail
    refine HG.out.mono ?_
    rintro e w4 ⟨rfl, hb4⟩
    have HB4 := Lib.hid hb4
    clear hb4 HG
    obtain ⟨ha, hb, hc, hd, he⟩ := two_cells w4 #[.int .i64 asn, .int .i64 hold, .int .u32 id, .bool four, .int .i64 paths] #[.int .i64 0, .int .i64 0, .slice none 0 0]
    obtain ⟨wF, hwF⟩ : ∃ wF, ((((w4.alloc (.cells #[.int .i64 0, .int .i64 0, .int .u32 0, .bool false, .int .i64 0] 24)).alloc (.cells #[.int .i64 0, .int .i64 0, .slice none 0 0] 30)).setRow w4.heap.size #[.int .i64 asn, .int .i64 hold, .int .u32 id, .bool four, .int .i64 paths]).setRow (w4.heap.size + 1) #[.int .i64 0, .int .i64 0, .slice none 0 0]) = wF := ⟨_, rfl⟩
    rw [hwF] at hc hd he
    have HWF := Lib.hid hwF
    have HBF := Lib.hid (HB4.out.trans (he.mono HB4.out.size))
    have HD := Lib.hid hd
    have HC := Lib.hid hc
    clear hc hd he hwF
    go_wp2_with (first | (refine wpList_store_blk (by rfl) 24 (.tmp 3) (.tmp 16) rfl w4.heap.size #[.int .i64 asn, .int .i64 hold, .int .u32 id, .bool four, .int .i64 paths] (by rfl) (by rfl) 24 _ ha (by kernel_rfl) (by rfl) (ov_one _ _ _ _ _) ?_) | (refine wpList_store_blk (by rfl) 30 (.tmp 4) (.tmp 17) rfl (w4.heap.size + 1) #[.int .i64 0, .int .i64 0, .slice none 0 0] (by rfl) (by rfl) 30 _ hb (by kernel_rfl) (by rfl) (note_one _ _ _ _ _) ?_))
    rw [HWF.out]
    refine (open_lives _).mono ?_
    rintro e w5 ⟨rfl, hb5⟩
    have HC5 := Lib.hid (HC.out.below hb5 HC.out.lt)
    have HD5 := Lib.hid (HD.out.below hb5 HD.out.lt)
    obtain ⟨p0, p1, p2, p3, p4⟩ := blk5' HC5.out
    have q0 := HD5.out.cell 0
    simp at q0
    have HB5 := Lib.hid (HBF.out.trans (hb5.mono HBF.out.size))
    clear hb5 ha hb
    go_wp2_with fail
    refine (HPT.out _).mono ?_
    rintro e w6 ⟨v6, rfl, own6, hb6⟩
    obtain ⟨A6, c6, hv6, hlc6, _, _, rd6⟩ := own_reads own6
    subst hv6
    have HC6 := Lib.hid (HC5.out.below hb6 HC5.out.lt)
    have HB6 := Lib.hid (HB5.out.trans (hb6.mono HB5.out.size))
    have HG6 := Lib.hid (get_yes w6 A6 c6 pb _ (by omega) hlc6 rd6 HGG.out)
    clear hb6 own6 rd6 p0 p1 p2 p3 p4 q0
    simp only [OV.cells] at HG6
    go_wp2_with fail
    refine HG6.out.mono ?_
    rintro e w7 ⟨rfl, hb7⟩
    have HC7 := Lib.hid (HC6.out.below hb7 HC6.out.lt)
    have HB7 := Lib.hid (HB6.out.trans (hb7.mono HB6.out.size))
    clear hb7 HG6
    obtain ⟨ha, hb, hc, hd, he⟩ := two_cells w7 #[.int .i64 asn, .int .i64 hold, .int .u32 id, .bool four, .int .i64 paths] #[.int .i64 0, .int .i64 0, .slice none 0 0]
    obtain ⟨wE, hwE⟩ : ∃ wE, ((((w7.alloc (.cells #[.int .i64 0, .int .i64 0, .int .u32 0, .bool false, .int .i64 0] 24)).alloc (.cells #[.int .i64 0, .int .i64 0, .slice none 0 0] 30)).setRow w7.heap.size #[.int .i64 asn, .int .i64 hold, .int .u32 id, .bool four, .int .i64 paths]).setRow (w7.heap.size + 1) #[.int .i64 0, .int .i64 0, .slice none 0 0]) = wE := ⟨_, rfl⟩
    rw [hwE] at hc hd he
    have HWE := Lib.hid hwE
    have HBE := Lib.hid (HB7.out.trans (he.mono HB7.out.size))
    have HC8 := Lib.hid (HC7.out.below he HC7.out.lt)
    have HE := Lib.hid hc
    have HF := Lib.hid hd
    obtain ⟨p0, p1, p2, p3, p4⟩ := blk5' HC8.out
    clear hc hd he hwE
    go_upto_region 8 with (first | (refine wpList_store_blk (by rfl) 24 (.tmp 7) (.tmp 44) rfl w7.heap.size #[.int .i64 asn, .int .i64 hold, .int .u32 id, .bool four, .int .i64 paths] (by rfl) (by rfl) 24 _ ha (by kernel_rfl) (by rfl) (ov_one _ _ _ _ _) ?_) | (refine wpList_store_blk (by rfl) 30 (.tmp 8) (.tmp 45) rfl (w7.heap.size + 1) #[.int .i64 0, .int .i64 0, .slice none 0 0] (by rfl) (by rfl) 30 _ hb (by kernel_rfl) (by rfl) (note_one _ _ _ _ _) ?_))
    rw [HWE.out]
    go_wp2_with fail
    refine (HCK.out _).mono ?_
    rintro e w9 ⟨rfl, hb9⟩
    have HB9 := Lib.hid (HBE.out.trans (hb9.mono HBE.out.size))
    obtain ⟨p0, p1, p2, p3, p4⟩ := blk5' (HC8.out.below hb9 HC8.out.lt)
    obtain ⟨r0, r1, r2, r3, r4⟩ := blk5' (HE.out.below hb9 HE.out.lt)
    have q0 := (HF.out.below hb9 HF.out.lt).cell 0
    simp at q0
    clear hb9 ha hb
    go_wp2_with fail
    go_ret
    exact ⟨rfl, HB9.out⟩
end Go.Proofs.Ytbmbpcibihddaaa
