/-
  Which routers may say what, and its bytes; it is got: the walk of 'OpenPuts'. No condition but that the table of least lengths reads as it is laid.
-/
import Derived.Test.YtbmbpcibihddaaaDoorOpS
import Derived.Test.YtbmbpcibihddaaaDoorFrameF
import Derived.Test.YtbmbpcibihddaaaDoorHeld
namespace Go.Proofs.YtbmbpcibihddaaaDoor
open Go.ChangeShapes Go.WideShapes Go.ChangeAt Go.RowKit

theorem own_strO {w : World} {B : Nat} {v : Value} {l : List UInt8} (h : w.ownsRow B 5 1 v l.length (l.map vb)) : ∃ A c, v = .slice A l.length c ∧ (convert 25 9 (.slice A l.length c)).run Tryd.prog w = .ok (.string (str l)) w := by
  obtain ⟨A, c, hv, _, _, _, hr⟩ := own_reads h
  exact ⟨A, c, hv, run_convert_rd (P := Tryd.prog) 25 9 5 c Tryd.underlying25 Tryd.underlying5 Tryd.underlying9 hr⟩
theorem convO {w : World} {F : Nat → Prop} {A : Option Addr} {c : Nat} {l : List UInt8} (hr : Reads w F A (l.map vb)) : (convert 25 9 (.slice A l.length c)).run Tryd.prog w = .ok (.string (str l)) w :=
  run_convert_rd (P := Tryd.prog) 25 9 5 c Tryd.underlying25 Tryd.underlying5 Tryd.underlying9 hr
theorem blk2O {w : World} {g : Nat} {t : TypeId} {a b : Value} (h : Blk w g t #[a, b]) : w.cell? ⟨g, 0, none⟩ = some a ∧ w.cell? ⟨g, 1, none⟩ = some b := ⟨by rw [h.cell 0]; rfl, by rw [h.cell 1]; rfl⟩

set_option maxRecDepth 10000 in
set_option maxHeartbeats 4000000 in
theorem omsg_no (o : OV) (w : World) (hok : o.ok = false) :
    Calls Tryd.prog 8 #[o.val] w fun e w' => e = .returned (.tuple #[.agg #[.int .i64 0, .slice none 0 0], .int .i64 40]) ∧ Below w.heap.size w w' := by
  have hM := Blk.new1 w (.cells o.cells 24) 30 #[.int .i64 0, .slice none 0 0]
  have hb0 := below_a2 w (.cells o.cells 24) (.cells #[.int .i64 0, .slice none 0 0] 30)
  have HP := Lib.hid (oput_no o ((w.alloc (.cells o.cells 24)).alloc (.cells #[.int .i64 0, .slice none 0 0] 30)) hok)
  obtain ⟨asn, hold, id, four, paths⟩ := o
  simp only [OV.val, OV.cells] at *
  clear hok
  go_enter Tryd.func8, Tryd.ntmps8
  go_wp2_with fail
  refine HP.out.mono ?_
  rintro e w1 ⟨rfl, hb1⟩
  have hM1 := hM.below hb1 hM.lt
  have hB1 := hb0.trans (hb1.mono hb0.size)
  have hM2 := hM1.setRow_ #[.int .i64 0, .slice none 0 0]
  have hB2 := below_setRow hB1 (g := w.heap.size + 1) (by omega) #[.int .i64 0, .slice none 0 0]
  have HM2 := Lib.hid hM2
  clear hM2 hb1 HP
  go_wp2_with (refine wpList_store_blk (by rfl) 30 (.tmp 2) (.tmp 13) rfl (w.heap.size + 1) #[.int .i64 0, .slice none 0 0] (by rfl) (by rfl) 30 _ hM1 (by kernel_rfl) (by rfl) (msg_one _ _ _ _) ?_)
  refine bodyPost_ret (results_cell_tmp rfl _ _ (w.heap.size + 1) 30 #[.int .i64 0, .slice none 0 0] (0, 0) _ (by simp) HM2.out Tryd.underlying30 rfl (by kernel_rfl)) rfl ?_
  exact ⟨by simp, hB2⟩

set_option maxRecDepth 20000 in
set_option maxHeartbeats 8000000 in
theorem puts_no (o : OV) (w : World) (hok : o.ok = false) :
    Calls Tryd.prog 3 #[o.val] w fun e w' => e = .returned (.bool true) ∧ Below w.heap.size w w' := by
  have hb0 := below_a1 w (.cells o.cells 24)
  have hk0 := Blk.new w 24 o.cells
  have HP := Lib.hid fun W => oput_no o W hok
  have HM := Lib.hid fun W => omsg_no o W hok
  have HC := Lib.hid fun W => ocheck_any o W
  have HR := Lib.hid fun W => orcheck_any o W
  rw [OV.err_no hok] at HC
  rw [hok] at HR
  obtain ⟨asn, hold, id, four, paths⟩ := o
  simp only [OV.val, OV.cells] at *
  clear hok
  go_enter Tryd.func3, Tryd.ntmps3
  go_wp2_with fail
  refine (HP.out _).mono ?_
  rintro e w1 ⟨rfl, b1⟩
  have B1 := Lib.hid (hb0.trans (b1.mono hb0.size))
  have k1 := hk0.below b1 hk0.lt
  obtain ⟨p0, p1, p2, p3, p4⟩ := blk5' k1
  clear hb0 hk0 b1
  go_wp2_with fail
  refine (HM.out _).mono ?_
  rintro e w2 ⟨rfl, b2⟩
  have B2 := Lib.hid (B1.out.trans (b2.mono B1.out.size))
  have k2 := k1.below b2 k1.lt
  clear b2 B1 k1 p0 p1 p2 p3 p4
  have hk3 := Blk.new w2 30 #[.int .i64 0, .slice none 0 0]
  have k3 := k2.alloc (.cells #[.int .i64 0, .slice none 0 0] 30)
  have B3 := (below_a1 w2 (.cells #[.int .i64 0, .slice none 0 0] 30))
  have hm4 := hk3.setRow_ #[.int .i64 0, .slice none 0 0]
  have k4 := Lib.hid (k3.farRow (k := w2.heap.size) (by have := k2.lt; omega) #[.int .i64 0, .slice none 0 0])
  have B4 := Lib.hid (B2.out.trans ((below_setRow B3 (g := w2.heap.size) (Nat.le_refl _) #[.int .i64 0, .slice none 0 0]).mono B2.out.size))
  obtain ⟨wF, hwF⟩ : ∃ wF, (w2.alloc (.cells #[.int .i64 0, .slice none 0 0] 30)).setRow w2.heap.size #[.int .i64 0, .slice none 0 0] = wF := ⟨_, rfl⟩
  rw [hwF] at hm4 k4 B4
  have HWF := Lib.hid hwF
  have HM4 := Lib.hid hm4
  clear k3 B3 hwF hm4 k2 B2
  go_wp2_with (refine wpList_store_blk (by rfl) 30 (.tmp 5) (.tmp 17) rfl w2.heap.size #[.int .i64 0, .slice none 0 0] (by rfl) (by rfl) 30 _ hk3 (by kernel_rfl) (by rfl) (msg_one _ _ _ _) ?_)
  rw [HWF.out]
  refine (open_lives _).mono ?_
  rintro e w5 ⟨rfl, hb5⟩
  have B5 := Lib.hid (B4.out.trans (hb5.mono B4.out.size))
  have k5 := Lib.hid (k4.out.below hb5 k4.out.lt)
  have m5 := Lib.hid (HM4.out.below hb5 HM4.out.lt)
  clear hb5 k4 B4 HM4 hk3
  obtain ⟨p0, p1, p2, p3, p4⟩ := blk5' k5.out
  go_wp2_with fail
  refine (HR.out _).mono ?_
  rintro e w6 ⟨rfl, hb6⟩
  have B6 := Lib.hid (B5.out.trans (hb6.mono B5.out.size))
  have k6 := Lib.hid (k5.out.below hb6 k5.out.lt)
  have m6 := Lib.hid (m5.out.below hb6 m5.out.lt)
  clear hb6 p0 p1 p2 p3 p4
  obtain ⟨p0, p1, p2, p3, p4⟩ := blk5' k6.out
  obtain ⟨q0, q1⟩ := blk2O m6.out
  go_wp2_with fail
  refine (HC.out _).mono ?_
  rintro e w7 ⟨rfl, hb7⟩
  have B7 := Lib.hid (B6.out.trans (hb7.mono B6.out.size))
  clear hb7 p0 p1 p2 p3 p4 q0 q1
  go_wp2_with fail
  go_ret
  exact ⟨rfl, B7.out⟩

set_option maxRecDepth 20000 in
set_option maxHeartbeats 8000000 in
theorem puts_ok (o : OV) (w : World) (hL : LeastAt w) (hi32 : o.id < 4294967296) (hok : o.ok = true) :
    Calls Tryd.prog 3 #[o.val] w fun e w' => e = .returned (.bool true) ∧ Below w.heap.size w w' := by
  have hb0 := below_a1 w (.cells o.cells 24)
  have hk0 := Blk.new w 24 o.cells
  have HP := Lib.hid fun W => oput_ok o W hok hi32
  have HM := Lib.hid fun W => omsg_ok o W hok hi32
  have HRP := Lib.hid fun W => orput_ok o W hok hi32
  have HC := Lib.hid fun W => ocheck_any o W
  have HR := Lib.hid fun W => orcheck_any o W
  have HGG := Lib.hid (put_get o hok hi32)
  have hpl : o.put.length ≤ 30 ∧ 10 ≤ o.put.length := by have h1 := o.put_length; have h2 := o.caps_length; omega
  rw [OV.err_ok hok] at HC
  rw [hok] at HR
  clear hok
  generalize o.put = pb at *
  have HFC := Lib.hid fun (W : World) (A : Option Addr) (c : Nat) (hb : Below w.heap.size w W) => fcheck_any ⟨1, A, c, pb⟩ W (by show pb.length ≤ _; omega) (hL.below hb)
  have he : ∀ A c, (MV.mk 1 A c pb).err = 0 := fun A c => MV.err_ok (by
    simp [MV.ok, fknownB, fitsF, leastZ]; omega)
  simp only [he, MV.val, MV.cells] at HFC
  obtain ⟨asn, hold, id, four, paths⟩ := o
  simp only [OV.val, OV.cells] at *
  go_enter Tryd.func3, Tryd.ntmps3
  go_wp2_with fail
  refine (HP.out _).mono ?_
  rintro e w1 ⟨v1, rfl, o1, b1⟩
  obtain ⟨A1, c1, hv1, hlc1, _, _, rd1⟩ := own_reads o1
  subst hv1
  have B1 := Lib.hid (hb0.trans (b1.mono hb0.size))
  have k1 := hk0.below b1 hk0.lt
  have R1 := Lib.hid (rd1.mono (G := (· < w1.heap.size)) (fun _ h _ => h))
  obtain ⟨p0, p1, p2, p3, p4⟩ := blk5' k1
  have HL1 := Lib.hid hlc1
  clear hb0 hk0 b1 o1 rd1 hlc1
  go_wp2_with fail
  refine (HM.out _).mono ?_
  rintro e w2 ⟨A2, c2, rfl, rd2, hlc2, b2⟩
  have B2 := Lib.hid (B1.out.trans (b2.mono B1.out.size))
  have k2 := k1.below b2 k1.lt
  have R2 := Lib.hid (rd2.mono (G := (· < w2.heap.size)) (fun _ h _ => h))
  have R12 := Lib.hid ((R1.out.below b2 (fun _ _ h => h)).mono (G := (· < w2.heap.size)) (fun _ h _ => h))
  clear b2 B1 k1 R1 rd2 hlc2 p0 p1 p2 p3 p4
  have hk3 := Blk.new w2 30 #[.int .i64 0, .slice none 0 0]
  have k3 := k2.alloc (.cells #[.int .i64 0, .slice none 0 0] 30)
  have B3 := (below_a1 w2 (.cells #[.int .i64 0, .slice none 0 0] 30))
  have hm4 := hk3.setRow_ #[.int .i64 1, .slice A2 pb.length c2]
  have k4 := Lib.hid (k3.farRow (k := w2.heap.size) (by have := k2.lt; omega) #[.int .i64 1, .slice A2 pb.length c2])
  have b4 := below_setRow B3 (g := w2.heap.size) (Nat.le_refl _) #[.int .i64 1, .slice A2 pb.length c2]
  have B4 := Lib.hid (B2.out.trans (b4.mono B2.out.size))
  have R4 := Lib.hid ((R12.out.below b4 (fun _ _ h => h)).mono (G := (· < w2.heap.size)) (fun _ _ h => h))
  have T4 := Lib.hid ((R2.out.below b4 (fun _ _ h => h)).mono (G := (· < w2.heap.size)) (fun _ _ h => h))
  have hs24 : w2.heap.size ≤ ((w2.alloc (.cells #[.int .i64 0, .slice none 0 0] 30)).setRow w2.heap.size #[.int .i64 1, .slice A2 pb.length c2]).heap.size := b4.size
  obtain ⟨wF, hwF⟩ : ∃ wF, (w2.alloc (.cells #[.int .i64 0, .slice none 0 0] 30)).setRow w2.heap.size #[.int .i64 1, .slice A2 pb.length c2] = wF := ⟨_, rfl⟩
  rw [hwF] at hm4 k4 B4 R4 T4 hs24
  have HWF := Lib.hid hwF
  have HM4 := Lib.hid hm4
  clear k3 B3 hwF hm4 k2 B2 b4 R12 R2
  go_wp2_with (refine wpList_store_blk (by rfl) 30 (.tmp 5) (.tmp 17) rfl w2.heap.size #[.int .i64 1, .slice A2 pb.length c2] (by rfl) (by rfl) 30 _ hk3 (by kernel_rfl) (by rfl) (msg_one _ _ _ _) ?_)
  rw [HWF.out]
  refine (open_lives _).mono ?_
  rintro e w5 ⟨rfl, hb5⟩
  have B5 := Lib.hid (B4.out.trans (hb5.mono B4.out.size))
  have k5 := Lib.hid (k4.out.below hb5 k4.out.lt)
  have m5 := Lib.hid (HM4.out.below hb5 HM4.out.lt)
  have R5 := Lib.hid (R4.out.below hb5 (fun _ _ h => Nat.lt_of_lt_of_le h hs24))
  have T5 := Lib.hid (T4.out.below hb5 (fun _ _ h => Nat.lt_of_lt_of_le h hs24))
  have hs25 : w2.heap.size ≤ w5.heap.size := Nat.le_trans hs24 hb5.size
  clear hb5 k4 B4 HM4 hk3 R4 T4 hs24
  obtain ⟨p0, p1, p2, p3, p4⟩ := blk5' k5.out
  go_wp2_with fail
  refine (HR.out _).mono ?_
  rintro e w6 ⟨rfl, hb6⟩
  have B6 := Lib.hid (B5.out.trans (hb6.mono B5.out.size))
  have k6 := Lib.hid (k5.out.below hb6 k5.out.lt)
  have m6 := Lib.hid (m5.out.below hb6 m5.out.lt)
  have R6 := Lib.hid (R5.out.below hb6 (fun _ _ h => Nat.lt_of_lt_of_le h hs25))
  have T6 := Lib.hid (T5.out.below hb6 (fun _ _ h => Nat.lt_of_lt_of_le h hs25))
  have hs26 : w2.heap.size ≤ w6.heap.size := Nat.le_trans hs25 hb6.size
  clear hb6 p0 p1 p2 p3 p4 B5 k5 m5 R5 T5 hs25
  have HG6 := Lib.hid (get_yes w6 A1 c1 pb _ (by omega) HL1.out R6.out HGG.out)
  simp only [OV.cells] at HG6
  go_wp2_with fail
  refine HG6.out.mono ?_
  rintro e w7 ⟨rfl, hb7⟩
  have B7 := Lib.hid (B6.out.trans (hb7.mono B6.out.size))
  have k7 := Lib.hid (k6.out.below hb7 k6.out.lt)
  have m7 := Lib.hid (m6.out.below hb7 m6.out.lt)
  have R7 := Lib.hid (R6.out.below hb7 (fun _ _ h => Nat.lt_of_lt_of_le h hs26))
  have T7 := Lib.hid (T6.out.below hb7 (fun _ _ h => Nat.lt_of_lt_of_le h hs26))
  have hs27 : w2.heap.size ≤ w7.heap.size := Nat.le_trans hs26 hb7.size
  clear hb7 HG6 B6 k6 m6 R6 T6 hs26
  obtain ⟨ha, hb, hc, hd, he8⟩ := two_cells w7 #[.int .i64 asn, .int .i64 hold, .int .u32 id, .bool four, .int .i64 paths] #[.int .i64 0, .int .i64 0, .slice none 0 0]
  obtain ⟨wE, hwE⟩ : ∃ wE, ((((w7.alloc (.cells #[.int .i64 0, .int .i64 0, .int .u32 0, .bool false, .int .i64 0] 24)).alloc (.cells #[.int .i64 0, .int .i64 0, .slice none 0 0] 37)).setRow w7.heap.size #[.int .i64 asn, .int .i64 hold, .int .u32 id, .bool four, .int .i64 paths]).setRow (w7.heap.size + 1) #[.int .i64 0, .int .i64 0, .slice none 0 0]) = wE := ⟨_, rfl⟩
  rw [hwE] at hc hd he8
  have HWE := Lib.hid hwE
  have B8 := Lib.hid (B7.out.trans (he8.mono B7.out.size))
  have k8 := Lib.hid (k7.out.below he8 k7.out.lt)
  have m8 := Lib.hid (m7.out.below he8 m7.out.lt)
  have R8 := Lib.hid (R7.out.below he8 (fun _ _ h => Nat.lt_of_lt_of_le h hs27))
  have T8 := Lib.hid (T7.out.below he8 (fun _ _ h => Nat.lt_of_lt_of_le h hs27))
  have hs28 : w2.heap.size ≤ wE.heap.size := Nat.le_trans hs27 he8.size
  have HE := Lib.hid hc
  have HF := Lib.hid hd
  clear hc hd he8 hwE B7 k7 m7 R7 T7 hs27
  go_upto_region 8 with (first | (refine wpList_store_blk (by rfl) 24 (.tmp 7) (.tmp 54) rfl w7.heap.size #[.int .i64 asn, .int .i64 hold, .int .u32 id, .bool four, .int .i64 paths] (by rfl) (by rfl) 24 _ ha (by kernel_rfl) (by rfl) (ov_one _ _ _ _ _) ?_) | (refine wpList_store_blk (by rfl) 37 (.tmp 8) (.tmp 55) rfl (w7.heap.size + 1) #[.int .i64 0, .int .i64 0, .slice none 0 0] (by rfl) (by rfl) 37 _ hb (by kernel_rfl) (by rfl) (note_one _ _ _ _ _) ?_))
  rw [HWE.out]
  clear ha hb
  obtain ⟨g, hg⟩ : ∃ g, w7.heap.size = g := ⟨_, rfl⟩
  obtain ⟨m, hm⟩ : ∃ m, w2.heap.size = m := ⟨_, rfl⟩
  rw [hg] at HE HF ⊢
  rw [hm] at m8 R8 T8 hs28 ⊢
  obtain ⟨qb, hqb⟩ : ∃ qb, qb = str pb := ⟨_, rfl⟩
  have hN := Lib.hid fun (W W' : World) (h : Below wE.heap.size wE W) (hb : Below W.heap.size W W') => h.trans (hb.mono h.size)
  have HFIN := Lib.hid fun (W : World) (h : Below wE.heap.size wE W) => B8.out.trans (h.mono B8.out.size)
  have HCS := Lib.hid fun (W : World) (h : Below wE.heap.size wE W) => (show W.cell? ⟨w.heap.size, 0, none⟩ = some (.int .i64 asn) ∧ W.cell? ⟨w.heap.size, 1, none⟩ = some (.int .i64 hold) ∧ W.cell? ⟨w.heap.size, 2, none⟩ = some (.int .u32 id) ∧ W.cell? ⟨w.heap.size, 3, none⟩ = some (.bool four) ∧ W.cell? ⟨w.heap.size, 4, none⟩ = some (.int .i64 paths) ∧ W.cell? ⟨m, 0, none⟩ = some (.int .i64 1) ∧ W.cell? ⟨m, 1, none⟩ = some (.slice A2 pb.length c2) ∧ W.cell? ⟨g, 0, none⟩ = some (.int .i64 asn) ∧ W.cell? ⟨g, 1, none⟩ = some (.int .i64 hold) ∧ W.cell? ⟨g, 2, none⟩ = some (.int .u32 id) ∧ W.cell? ⟨g, 3, none⟩ = some (.bool four) ∧ W.cell? ⟨g, 4, none⟩ = some (.int .i64 paths) ∧ W.cell? ⟨(g + 1), 0, none⟩ = some (.int .i64 0) ∧ (convert 25 9 (.slice A1 pb.length c1)).run Tryd.prog W = .ok (.string qb) W ∧ (convert 25 9 (.slice A2 pb.length c2)).run Tryd.prog W = .ok (.string qb) W from by
    obtain ⟨p0, p1, p2, p3, p4⟩ := blk5' (k8.out.below h k8.out.lt)
    obtain ⟨q0, q1⟩ := blk2O (m8.out.below h m8.out.lt)
    obtain ⟨r0, r1, r2, r3, r4⟩ := blk5' (HE.out.below h HE.out.lt)
    have s0 := (HF.out.below h HF.out.lt).cell 0
    have hc1 := convO (c := c1) (R8.out.below h (fun _ _ h => Nat.lt_of_lt_of_le h hs28))
    have hc2 := convO (c := c2) (T8.out.below h (fun _ _ h => Nat.lt_of_lt_of_le h hs28))
    rw [hqb]
    exact ⟨p0, p1, p2, p3, p4, q0, q1, r0, r1, r2, r3, r4, s0, hc1, hc2⟩)
  have HCK := Lib.hid fun (W : World) (h : Below wE.heap.size wE W) => HC.out W
  have HFK := Lib.hid fun (W : World) (h : Below wE.heap.size wE W) => HFC.out W A2 c2 (HFIN.out W h)
  have HBD := Lib.hid fun (W : World) (h : Below wE.heap.size wE W) => (HRP.out W).mono fun e w' hh => (show ∃ A3 c3, e = .returned (.slice A3 pb.length c3) ∧ Hid (∀ W', Below w'.heap.size w' W' → (convert 25 9 (.slice A3 pb.length c3)).run Tryd.prog W' = .ok (.string qb) W') ∧ Below W.heap.size W w' from by
    obtain ⟨v, he, ho, hb⟩ := hh
    have ho0 := own_mono ho (Nat.zero_le _)
    obtain ⟨A3, c3, hv, _⟩ := own_strO ho0
    subst hv
    refine ⟨A3, c3, he, Lib.hid fun W' hb' => ?_, hb⟩
    obtain ⟨A3', c3', hv', hcv⟩ := own_strO (own_alive ho0 hb')
    injection hv' with e1 e2 e3
    subst e1 e3
    rw [hqb]
    exact hcv)
  have hqqb : (qb.toList == qb.toList) = true := by simp
  have hB0 : Below wE.heap.size wE wE.drew := ⟨rfl, rfl, rfl, Nat.le_refl _, fun _ _ => rfl⟩
  clear hqb k8 m8 R8 T8 HE HF B8 hg hm hs28 he HFC HC HP HM HRP HR HGG hL HWE HWF
  go_region_held3 (fun W => W.cell? ⟨w.heap.size, 0, none⟩ = some (.int .i64 asn) ∧ W.cell? ⟨w.heap.size, 1, none⟩ = some (.int .i64 hold) ∧ W.cell? ⟨w.heap.size, 2, none⟩ = some (.int .u32 id) ∧ W.cell? ⟨w.heap.size, 3, none⟩ = some (.bool four) ∧ W.cell? ⟨w.heap.size, 4, none⟩ = some (.int .i64 paths) ∧ W.cell? ⟨m, 0, none⟩ = some (.int .i64 1) ∧ W.cell? ⟨m, 1, none⟩ = some (.slice A2 pb.length c2) ∧ W.cell? ⟨g, 0, none⟩ = some (.int .i64 asn) ∧ W.cell? ⟨g, 1, none⟩ = some (.int .i64 hold) ∧ W.cell? ⟨g, 2, none⟩ = some (.int .u32 id) ∧ W.cell? ⟨g, 3, none⟩ = some (.bool four) ∧ W.cell? ⟨g, 4, none⟩ = some (.int .i64 paths) ∧ W.cell? ⟨(g + 1), 0, none⟩ = some (.int .i64 0) ∧ (convert 25 9 (.slice A1 pb.length c1)).run Tryd.prog W = .ok (.string qb) W ∧ (convert 25 9 (.slice A2 pb.length c2)).run Tryd.prog W = .ok (.string qb) W)
    (first | exact HCS.out _ (by assumption) | exact ⟨HCS.out _ (by assumption), hcv.out _ (by assumption)⟩ | go_keep)
    (first | (go_at_call 11; refine (HCK.out _ (by assumption)).mono ?_; rintro e W6 ⟨rfl, hb6⟩; have hB6 := hN.out _ _ (by assumption) hb6) |
      (go_at_call 14; refine (HFK.out _ (by assumption)).mono ?_; rintro e W8 ⟨rfl, hb8⟩; have hB8 := hN.out _ _ (by assumption) hb8; have hC8 := below_tr ‹Below W7.heap.size W7 _› hb8) |
      (go_at_call 13; refine (HBD.out _ (by assumption)).mono ?_; rintro e W7 ⟨A3, c3, rfl, hcv, hb7⟩; have hB7 := hN.out _ _ (by assumption) hb7; have hC7 := Below.refl W7.heap.size W7; simp only [held_strong (S := fun W => W.cell? ⟨w.heap.size, 0, none⟩ = some (.int .i64 asn) ∧ W.cell? ⟨w.heap.size, 1, none⟩ = some (.int .i64 hold) ∧ W.cell? ⟨w.heap.size, 2, none⟩ = some (.int .u32 id) ∧ W.cell? ⟨w.heap.size, 3, none⟩ = some (.bool four) ∧ W.cell? ⟨w.heap.size, 4, none⟩ = some (.int .i64 paths) ∧ W.cell? ⟨m, 0, none⟩ = some (.int .i64 1) ∧ W.cell? ⟨m, 1, none⟩ = some (.slice A2 pb.length c2) ∧ W.cell? ⟨g, 0, none⟩ = some (.int .i64 asn) ∧ W.cell? ⟨g, 1, none⟩ = some (.int .i64 hold) ∧ W.cell? ⟨g, 2, none⟩ = some (.int .u32 id) ∧ W.cell? ⟨g, 3, none⟩ = some (.bool four) ∧ W.cell? ⟨g, 4, none⟩ = some (.int .i64 paths) ∧ W.cell? ⟨(g + 1), 0, none⟩ = some (.int .i64 0) ∧ (convert 25 9 (.slice A1 pb.length c1)).run Tryd.prog W = .ok (.string qb) W ∧ (convert 25 9 (.slice A2 pb.length c2)).run Tryd.prog W = .ok (.string qb) W) (fun W => (W.cell? ⟨w.heap.size, 0, none⟩ = some (.int .i64 asn) ∧ W.cell? ⟨w.heap.size, 1, none⟩ = some (.int .i64 hold) ∧ W.cell? ⟨w.heap.size, 2, none⟩ = some (.int .u32 id) ∧ W.cell? ⟨w.heap.size, 3, none⟩ = some (.bool four) ∧ W.cell? ⟨w.heap.size, 4, none⟩ = some (.int .i64 paths) ∧ W.cell? ⟨m, 0, none⟩ = some (.int .i64 1) ∧ W.cell? ⟨m, 1, none⟩ = some (.slice A2 pb.length c2) ∧ W.cell? ⟨g, 0, none⟩ = some (.int .i64 asn) ∧ W.cell? ⟨g, 1, none⟩ = some (.int .i64 hold) ∧ W.cell? ⟨g, 2, none⟩ = some (.int .u32 id) ∧ W.cell? ⟨g, 3, none⟩ = some (.bool four) ∧ W.cell? ⟨g, 4, none⟩ = some (.int .i64 paths) ∧ W.cell? ⟨(g + 1), 0, none⟩ = some (.int .i64 0) ∧ (convert 25 9 (.slice A1 pb.length c1)).run Tryd.prog W = .ok (.string qb) W ∧ (convert 25 9 (.slice A2 pb.length c2)).run Tryd.prog W = .ok (.string qb) W) ∧ (convert 25 9 (.slice A3 pb.length c3)).run Tryd.prog W = .ok (.string qb) W) (fun w h => h.1) ‹Shut _›] at *) | fail)
  all_goals
    go_wp2_with fail
    go_ret
    exact ⟨rfl, HFIN.out _ (by assumption)⟩

theorem puts_walk (o : OV) (w : World) (hL : LeastAt w) (hi32 : o.id < 4294967296) :
    Calls Tryd.prog 3 #[o.val] w fun e w' => e = .returned (.bool true) ∧ Below w.heap.size w w' := by
  cases hok : o.ok with
  | false => exact puts_no o w hok
  | true => exact puts_ok o w hL hi32 hok
end Go.Proofs.YtbmbpcibihddaaaDoor
