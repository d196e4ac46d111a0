/-
  What is monitored: Put. No condition but that bytes read as data and the table of least lengths as it is laid.
-/
import Derived.Test.YtbmbpcibihddaaaDoorBmpI
import Derived.Test.YtbmbpcibihddaaaDoorBmpE
import Derived.Deep.RegionLaw
namespace Go.Proofs.YtbmbpcibihddaaaDoor
open Go.ChangeShapes Go.WideShapes Go.ChangeAt Go.RowKit

theorem MD.err_ok {m : MD} (h : m.ok = true) : m.err = 0 := if_pos h
theorem MD.err_no {m : MD} (h : m.ok = false) : m.err = 360 := if_neg (by simp [h])
theorem own_of_row (w : World) (B : Nat) (l : List UInt8) (hB : B ≤ w.heap.size) (hl : l.length ≤ maxLen) : (w.alloc (.cells (l.map vb).toArray 5)).ownsRow B 5 1 (.slice (some ⟨w.heap.size, 0, none⟩) l.length l.length) l.length (l.map vb) :=
  ⟨by simp, .inr ⟨w.heap.size, l.length, (l.map vb).toArray, rfl, hB, heap_alloc_new w _, Nat.le_refl _, hl, by simp, by
    rw [List.take_of_length_le (by simp)]⟩⟩
set_option maxRecDepth 20000 in
set_option maxHeartbeats 8000000 in
theorem bput_no (m : MoV) (w : World) (F : Nat → Prop) (hr : m.Rd w F) (hT : LeastAt w) (hok : m.d.ok = false) :
    Calls Tryd.prog 17 #[m.val] w fun e w' => e = .returned (.tuple #[.slice none 0 0, .int .i64 360]) ∧ Below w.heap.size w w' := by
  have hb0 := below_a1 w (.cells m.cells 45)
  have HC := Lib.hid (bcheck_any m _ F (hr.alloc (.cells m.cells 45)) (hT.below hb0))
  rw [MD.err_no hok] at HC
  clear hr hT hok
  obtain ⟨kind, id, addr, asn, time, reason, own, sA, sc, sent, cA, cc, came, text⟩ := m
  simp only [MoV.val, MoV.cells] at *
  generalize str text = tx at *
  go_enter Tryd.func17, Tryd.ntmps17
  go_wp2_with fail
  refine HC.out.mono ?_
  rintro e w1 ⟨rfl, hb1⟩
  have hB1 := hb0.trans (hb1.mono hb0.size)
  clear hb1 hb0
  go_wp2_with fail
  go_ret2
  exact ⟨rfl, hB1⟩
set_option maxRecDepth 20000 in
set_option maxHeartbeats 8000000 in
theorem bput_ok (m : MoV) (w : World) (F : Nat → Prop) (hr : m.Rd w F) (hT : LeastAt w) (hok : m.d.ok = true) (hu : m.d.u32) :
    Calls Tryd.prog 17 #[m.val] w fun e w' => ∃ A c, e = .returned (.tuple #[.slice A m.d.put.length c, .int .i64 0]) ∧ w'.ownsRow w.heap.size 5 1 (.slice A m.d.put.length c) m.d.put.length (m.d.put.map vb) ∧ Below w.heap.size w w' := by
  obtain ⟨i0, hi0, hz0, hz1, hz2⟩ := info_parts infoU8
  have hb0 := below_a1 w (.cells m.cells 45)
  have hk0 := Blk.new w 45 m.cells
  have HC := Lib.hid (bcheck_any m _ F (hr.alloc (.cells m.cells 45)) (hT.below hb0))
  rw [MD.err_ok hok] at HC
  have HR := Lib.hid (hr.mono (G := (· < w.heap.size)) (fun _ h _ => h))
  have HK := Lib.hid (MD.ok_kind hok)
  have hbl := MD.body_length m.d hok
  have HPL := Lib.hid m.d.put_length
  have HPE := Lib.hid (show m.d.put = 3 :: (be 4 (6 + m.d.body.length) ++ (be 1 m.d.kind.toNat ++ m.d.body)) from rfl)
  have HWK := Lib.hid fun (W : World) (cb : Nat) (h : WS W W cb cb w.heap.size m []) => walk_w h hok hu
  have HK0 := Lib.hid hk0
  have HB0 := Lib.hid hb0
  clear hr hT hok hu hk0 hb0
  go_enter Tryd.func17, Tryd.ntmps17
  simp only [MoV.val] at *
  go_wp2_with (refine wpList_load_blk (by rfl) 45 (.tmp 1) rfl w.heap.size (by rfl) 45 m.cells _ HK0.out Tryd.underlying45 rfl (by kernel_rfl) ?_)
  refine HC.out.mono ?_
  rintro e w1 ⟨rfl, hb1⟩
  have hB1 := HB0.out.trans (hb1.mono HB0.out.size)
  have hk1 := HK0.out.below hb1 HK0.out.lt
  have hkl := hk1.lt
  have hb2 := below_a1 w1 (.cells #[.slice none 0 0, .pointer none] 82)
  have hcb := Blk.new w1 82 #[.slice none 0 0, .pointer none]
  have hws : WS (w1.alloc (.cells #[.slice none 0 0, .pointer none] 82)) (w1.alloc (.cells #[.slice none 0 0, .pointer none] 82)) w1.heap.size w1.heap.size w.heap.size m [] :=
    ⟨⟨.slice none 0 0, hcb, own_nil _ _ _ _⟩, hk1.below hb2 hk1.lt, Only.refl _ _, (HR.out.below (hB1.trans (hb2.mono hB1.size)) (fun _ _ h => h)).mono (fun k _ hk => by omega), Nat.le_refl _, hkl, hb2.size⟩
  have HW := Lib.hid (HWK.out _ _ hws)
  have HB2 := Lib.hid (hB1.trans (hb2.mono hB1.size))
  clear hb1 hk1 hws hcb hb2
  go_wp2_with fail
  refine HW.out.mono ?_
  rintro e w3 ⟨rfl, hs3⟩
  obtain ⟨v3, hc3⟩ := hs3.cw
  have HB3 := Lib.hid (HB2.out.trans (hs3.only.below (B := w.heap.size) (by simp; omega) (fun k hk => by omega)))
  obtain ⟨A3, c3, hv3, hlc3, hcm3, -, rd3⟩ := own_reads hc3.own
  subst hv3
  have hbl3 := hs3.bl
  have hn4 := own_of_row w3 w3.heap.size [3] (Nat.le_refl _) (by unfold maxLen; simp)
  have hb4 := below_a1 w3 (.cells #[.int .u8 3] 5)
  have hb5 := hb4.alloc hb4.size (.cells #[.slice (some ⟨w3.heap.size, 0, none⟩) 1 1, .pointer none] 82)
  have hb6 := hb5.alloc hb5.size (.cells #[.int .i64 (6 + m.d.body.length)] 3)
  have ho := Blk.new (w3.alloc (.cells #[.int .u8 3] 5)) 82 #[.slice (some ⟨w3.heap.size, 0, none⟩) 1 1, .pointer none]
  have HC5 := Lib.hid (hc3.below hb5)
  have hcell5 := HC5.out.blk.cell 0
  simp at hcell5
  have hCW : CW ((w3.alloc (.cells #[.int .u8 3] 5)).alloc (.cells #[.slice (some ⟨w3.heap.size, 0, none⟩) 1 1, .pointer none] 82)) w3.heap.size (w3.heap.size + 1) (.slice (some ⟨w3.heap.size, 0, none⟩) 1 1) [3] :=
    ⟨by rw [World.size_alloc] at ho; exact ho, own_below hn4 (below_a1 _ _) (Nat.le_refl _)⟩
  have HC6 := Lib.hid (hc3.below hb6)
  have HCW6 := Lib.hid (hCW.below (below_a1 _ (.cells #[.int .i64 (6 + m.d.body.length)] 3)))
  have hi6 := Blk.new ((w3.alloc (.cells #[.int .u8 3] 5)).alloc (.cells #[.slice (some ⟨w3.heap.size, 0, none⟩) 1 1, .pointer none] 82)) 3 #[.int .i64 (6 + m.d.body.length)]
  have HM6 := Lib.hid (hs3.mon.below hb6 hs3.mon.lt)
  have HB6 := Lib.hid (HB3.out.trans (hb6.mono HB3.out.size))
  have HN := Lib.hid (cnum4_w HCW6.out hb6.size (w3.heap.size + 1 + 1) 0 (6 + m.d.body.length) (by omega) (by rw [World.size_alloc, World.size_alloc] at hi6; rw [hi6.cell]; rfl) (by simp))
  have hwr : IntKind.i64.wrap (6 + (m.d.body.length : Int)) = 6 + (m.d.body.length : Int) := IntWalk.i64_in _ (by omega)
  have HL3 := Lib.hid (show w.heap.size < w1.heap.size ∧ w1.heap.size < w3.heap.size from ⟨hkl, by have := hs3.only.size; simp at this; omega⟩)
  have HLT := Lib.hid fun (k : Nat) (hk : (Value.slice A3 m.d.body.length c3).ownBlock = some k) => (hc3.own.lt k hk).2
  clear hs3 hc3 rd3 hbl3 hn4 hb4 hb5 hb6 ho hCW hi6 HW hkl
  obtain ⟨kn, hkn⟩ : ∃ kn : Nat, m.kind = kn := ⟨m.kind.toNat, by have := HK.out.1; have e : m.d.kind = m.kind := rfl; omega⟩
  have hkn6 : kn < 256 := by have := HK.out.2; have e : m.d.kind = m.kind := rfl; omega
  have HKN := Lib.hid hkn
  clear hkn
  go_wp2_with fail
  refine HN.out.mono ?_
  rintro e w7 ⟨rfl, hp7⟩
  have hs7 : w3.heap.size + 2 ≤ w7.heap.size := by have := hp7.size; simp at this; omega
  have ho7 : Only (fun k => w3.heap.size ≤ k) _ w7 := hp7.only.mono (fun k _ hk => hk.elim (fun e => by omega) (fun e => by simp [Value.ownBlock] at e; omega))
  have HC7 := Lib.hid (HC6.out.only ho7 (by have := HL3.out; omega) (fun k hk => by have := HLT.out k hk; omega))
  have HM7 := Lib.hid (HM6.out.only ho7 (by have := HL3.out; omega))
  have HB7 := Lib.hid (HB6.out.trans (ho7.below (B := w.heap.size) (by simp; have := HL3.out; omega) (fun k hk => by have := HL3.out; omega)))
  obtain ⟨v7, hc7, -⟩ := hp7.ex
  have HC7' := Lib.hid hc7
  have HN7 := Lib.hid (cnum1_w hc7 (by omega) w.heap.size 0 kn hkn6 (by rw [HM7.out.cell, ← HKN.out]; rfl) (by simp [be_length]))
  clear hp7 ho7 hc7 hcell5 HN
  go_wp2_with fail
  refine HN7.out.mono ?_
  rintro e w8 ⟨rfl, hp8⟩
  have ho8 : Only (fun k => w3.heap.size ≤ k) w7 w8 := hp8.only.mono (fun k _ hk => hk.elim (fun e => by omega) (fun e => (HC7'.out.own.lt k e).1))
  have HC8 := Lib.hid (HC7.out.only ho8 (by have := HL3.out; omega) (fun k hk => by have := HLT.out k hk; omega))
  have hB8 := HB7.out.trans (ho8.below (B := w.heap.size) (by have := HL3.out; omega) (fun k hk => by have := HL3.out; omega))
  obtain ⟨v8, hc8, -⟩ := hp8.ex
  obtain ⟨A8, c8, hv8, -, -, -, -⟩ := own_reads hc8.own
  subst hv8
  have HPE2 := Lib.hid (show m.d.put = ([3] ++ be 4 (6 + m.d.body.length) ++ be 1 kn) ++ m.d.body from by
    rw [HPE.out, show m.d.kind.toNat = kn from by rw [show m.d.kind = m.kind from rfl, HKN.out]; rfl]; simp)
  have hl8 : ([3] ++ be 4 (6 + m.d.body.length) ++ be 1 kn).length = 6 := by simp [be_length]
  clear hp8 HN7
  generalize [3] ++ be 4 (6 + m.d.body.length) ++ be 1 kn = l8 at *
  rw [hl8] at hc8
  have HO8 := Lib.hid (own_mono hc8.own (show w.heap.size ≤ w3.heap.size by have := HL3.out; omega))
  have hq0 := hc8.blk.cell 0
  have hq1 := HC8.out.blk.cell 0
  simp at hq0 hq1
  obtain ⟨A3', c3', hv3', -, -, -, rd8⟩ := own_reads HC8.out.own
  injection hv3' with e1 e2 e3
  subst e1 e3
  have hs8 : w.heap.size ≤ w8.heap.size := hB8.size
  have HB8 := Lib.hid hB8
  have HL8 := Lib.hid hl8
  rw [hl8] at HO8
  clear ho8 hc8 hB8 hl8
  go_upto_region 10 with fail
  go_region_law ((refine step_append_rd _ (by rfl) (.tmp 34) (.tmp 38) 25 (by rfl) w.heap.size 5 i0 (.int .u8 0) 1 1 Tryd.underlying25 hi0 hz0 hz1 hz2 rfl (by omega) _ 6 (l8.map vb) (by rfl) HO8.out (fun _ => True) A3 m.d.body.length c3 (m.d.body.map vb) (by rfl) (by simp) (rd8.mono (fun _ _ _ => trivial)) (vb_one _) (by unfold maxLen; omega) (by omega) hs8 ?_; intro v9 w9 hown9 hg9 hloc9; obtain ⟨A9, c9, hv9, _, _, _, _⟩ := own_reads hown9; subst hv9))
  all_goals
    go_wp2_with fail
    go_ret2
    have e9 : 6 + m.d.body.length = m.d.put.length := HPL.out.symm
    rw [← List.map_append, ← HPE2.out, e9] at hown9
    exact ⟨A9, c9, by rw [← e9]; rfl, hown9, below_append (w0 := w) HB8.out.drew hs8 HO8.out hg9⟩
end Go.Proofs.YtbmbpcibihddaaaDoor
