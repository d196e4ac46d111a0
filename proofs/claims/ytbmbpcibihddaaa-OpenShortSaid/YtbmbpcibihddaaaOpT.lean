/-
  No beginning of a body says anything: the walk of 'OpenShort'. No condition.
-/
import Derived.Test.YtbmbpcibihddaaaOpS
namespace Go.Proofs.Ytbmbpcibihddaaa
open Go.ChangeShapes Go.WideShapes Go.ChangeAt Go.RowKit

set_option maxRecDepth 20000 in
set_option maxHeartbeats 8000000 in
theorem short_walk (o : OV) (hi32 : o.id < 4294967296) (n : Int) (w : World) :
    Calls Try.prog 5 #[.agg o.cells, .int .i64 n] w fun e w' => e = .returned (.bool true) ∧ Below w.heap.size w w' := by
  have hB0 := Blk.new w 24 o.cells
  have hb0 := below_a1 w (.cells o.cells 24)
  have HRC := Lib.hid (orcheck_any o (w.alloc (.cells o.cells 24)))
  have HPT := Lib.hid fun (hok : o.ok = true) W => oput_ok o W hok hi32
  have HSH := Lib.hid fun n hn => put_short o n hn
  have hpl := o.put_length
  have hcl := o.caps_length
  obtain ⟨ok, hok⟩ : ∃ ok, o.ok = ok := ⟨_, rfl⟩
  rw [hok] at HRC
  have HOK := Lib.hid hok
  clear hok
  generalize o.put = b at *
  obtain ⟨asn, hold, id, four, paths⟩ := o
  simp only [OV.val, OV.cells] at *
  cases ok with
  | false =>
    go_enter Try.func5, Try.ntmps5
    go_wp2_with fail
    refine HRC.out.mono ?_
    rintro e w1 ⟨rfl, hb1⟩
    have HB1 := Lib.hid (hb0.trans (hb1.mono hb0.size))
    clear hb1
    go_wp2_with fail
    refine (open_lives _).mono ?_
    rintro e w2 ⟨rfl, hb2⟩
    go_wp2_with fail
    go_ret
    exact ⟨rfl, HB1.out.trans (hb2.mono HB1.out.size)⟩
  | true =>
    have HPT2 := Lib.hid (HPT.out HOK.out)
    go_enter Try.func5, Try.ntmps5
    go_wp2_with fail
    refine HRC.out.mono ?_
    rintro e w1 ⟨rfl, hb1⟩
    have HB1 := Lib.hid (hb0.trans (hb1.mono hb0.size))
    obtain ⟨y0, y1, y2, y3, y4⟩ := blk5' (hB0.below hb1 hB0.lt)
    clear hb1
    go_wp2_with fail
    refine (HPT2.out _).mono ?_
    rintro e w2 ⟨v2, rfl, own2, hb2⟩
    obtain ⟨A2, c2, hv2, hlc2, _, _, rd2⟩ := own_reads own2
    subst hv2
    have HB2 := Lib.hid (HB1.out.trans (hb2.mono HB1.out.size))
    have HR2 := Lib.hid (rd2.mono (G := (· < w2.heap.size)) (fun k hk _ => hk))
    clear own2 rd2 hb2 y0 y1 y2 y3 y4 HB1
    go_wp2_with fail
    refine (open_lives _).mono ?_
    rintro e w3 ⟨rfl, hb3⟩
    have HB3 := Lib.hid (HB2.out.trans (hb3.mono HB2.out.size))
    have HR3 := Lib.hid (HR2.out.below hb3 (fun _ _ h => h))
    clear hb3 HB2 HR2
    by_cases hn : n < 0 ∨ (b.length : Int) ≤ n
    · rcases hn with hn | hn
      · go_wp2_with fail
        refine (open_lives _).mono ?_
        rintro e w4 ⟨rfl, hb4⟩
        go_wp2_with fail
        go_ret
        exact ⟨rfl, HB3.out.trans (hb4.mono HB3.out.size)⟩
      · have hn0 : ¬ n < 0 := by omega
        go_wp2_with fail
        refine (open_lives _).mono ?_
        rintro e w4 ⟨rfl, hb4⟩
        go_wp2_with fail
        go_ret
        exact ⟨rfl, HB3.out.trans (hb4.mono HB3.out.size)⟩
    · obtain ⟨m, rfl⟩ : ∃ m : Nat, n = (m : Int) := ⟨n.toNat, by omega⟩
      have hm : m < b.length := by omega
      have hn1 : ¬ (b.length : Int) ≤ (m : Int) := by omega
      have hn0 : ¬ (m : Int) < 0 := by omega
      obtain ⟨s, hs⟩ := HSH.out m hm
      have hlT : (b.take m).length = m := by simp; omega
      have hrT : Reads w3 (· < w2.heap.size) A2 ((b.take m).map vb) := by
        have h := HR3.out.take m
        rw [← List.map_take] at h
        exact h
      have HG := get_no' w3 A2 c2 (b.take m) _ (by omega) (by omega) hrT hs
      rw [hlT] at HG
      have HG := Lib.hid HG
      clear hn hs hlT hrT HSH
      go_wp2_with fail
      refine HG.out.mono ?_
      rintro e w4 ⟨A9, c9, n9, rfl, hb4⟩
      have HB4 := Lib.hid (HB3.out.trans (hb4.mono HB3.out.size))
      clear hb4
      obtain ⟨ha, hb, hc, hd, he⟩ := two_cells w4 #[.int .i64 0, .int .i64 0, .int .u32 0, .bool false, .int .i64 0] #[.int .i64 2, .int .i64 s, .slice A9 n9 c9]
      obtain ⟨wF, hwF⟩ : ∃ wF, ((((w4.alloc (.cells #[.int .i64 0, .int .i64 0, .int .u32 0, .bool false, .int .i64 0] 24)).alloc (.cells #[.int .i64 0, .int .i64 0, .slice none 0 0] 30)).setRow w4.heap.size #[.int .i64 0, .int .i64 0, .int .u32 0, .bool false, .int .i64 0]).setRow (w4.heap.size + 1) #[.int .i64 2, .int .i64 s, .slice A9 n9 c9]) = wF := ⟨_, rfl⟩
      rw [hwF] at hc hd he
      obtain ⟨p0, p1, p2, p3, p4⟩ := blk5' hc
      have q0 := hd.cell 0
      simp at q0
      have HWF := Lib.hid hwF
      have HBF := Lib.hid (HB4.out.trans (he.mono HB4.out.size))
      clear hc hd he hwF
      go_upto_region 7 with (first | (refine wpList_store_blk (by rfl) 24 (.tmp 7) (.tmp 44) rfl w4.heap.size #[.int .i64 0, .int .i64 0, .int .u32 0, .bool false, .int .i64 0] (by rfl) (by rfl) 24 _ ha (by kernel_rfl) (by rfl) (ov_one _ _ _ _ _) ?_) | (refine wpList_store_blk (by rfl) 30 (.tmp 8) (.tmp 45) rfl (w4.heap.size + 1) #[.int .i64 2, .int .i64 s, .slice A9 n9 c9] (by rfl) (by rfl) 30 _ hb (by kernel_rfl) (by rfl) (note_one _ _ _ _ _) ?_))
      rw [HWF.out]
      go_wp2_with fail
      go_ret
      exact ⟨rfl, HBF.out⟩
end Go.Proofs.Ytbmbpcibihddaaa
