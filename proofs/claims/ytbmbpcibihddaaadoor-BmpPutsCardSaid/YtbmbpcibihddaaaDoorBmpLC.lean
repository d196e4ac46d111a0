/-
  What may be monitored, and its bytes; it is got, whatever stands behind it: the walk of 'BmpPuts'. No condition but that bytes read as data and the table of least lengths as it is laid. (Printed by wip/tools/gen_bmplc.py.)
-/
import Derived.Test.YtbmbpcibihddaaaDoorBmpLB
import Derived.Test.YtbmbpcibihddaaaDoorBmpV
import Derived.Test.YtbmbpcibihddaaaDoorBmpS
namespace Go.Proofs.YtbmbpcibihddaaaDoor
open Go.ChangeShapes Go.WideShapes Go.ChangeAt Go.RowKit

set_option maxRecDepth 20000 in
set_option maxHeartbeats 16000000 in
theorem bputs_large (m : MoV) (A : Option Addr) (c : Nat) (l : List UInt8) (w : World) (hr : m.Rd w (fun _ => True)) (hlm : l.length ≤ 9223372036854775807) (hrl : Reads w (fun _ => True) A (l.map vb)) (hT : LeastAt w) (hbig : (decide (5000 < m.sent.length) || decide (5000 < m.came.length) || decide (1000 < m.text.length)) = true ∨ 1000 < l.length) :
    Calls Tryd.prog 4 #[m.val, .slice A l.length c] w fun e w' => e = .returned (.bool true) ∧ Below w.heap.size w w' := by
  have hb0 := below_a1 w (.cells m.cells 45)
  have HK0 := Lib.hid (Blk.new w 45 m.cells)
  have HB0 := Lib.hid hb0
  have HR := Lib.hid (hr.mono (G := (· < w.heap.size)) (fun _ h _ => h))
  have HRL := Lib.hid (hrl.mono (G := (· < w.heap.size)) (fun _ h _ => h))
  have HT := Lib.hid hT
  have HLG := Lib.hid (rlarge_any m _ _ (hr.alloc (.cells m.cells 45)))
  generalize hlg : (decide (5000 < m.sent.length) || decide (5000 < m.came.length) || decide (1000 < m.text.length)) = lg at *
  clear hr hrl hT hb0
  generalize l.length = ll at *
  simp only [MoV.val] at *
  have hD : lg = true ∨ (lg = false ∧ (1000 : Int) < ll) := by
    cases lg
    · exact .inr ⟨rfl, by rcases hbig with h | h; cases h; omega⟩
    · exact .inl rfl
  clear hbig hlg
  rcases hD with rfl | ⟨rfl, h⟩
  all_goals
    go_enter Tryd.func4, Tryd.ntmps4
    go_wp2_with (refine wpList_load_blk (by rfl) 45 (.tmp 2) rfl w.heap.size (by rfl) 45 m.cells _ HK0.out Tryd.underlying45 rfl (by kernel_rfl) ?_)
    refine HLG.out.mono ?_
    rintro e w1 ⟨rfl, hb1⟩
    have HB1 := Lib.hid (HB0.out.trans (hb1.mono HB0.out.size))
    clear hb1
    go_wp2_with fail
    refine (bmp_lives _ (HT.out.below HB1.out)).mono ?_
    rintro e w2 ⟨rfl, hb2⟩
    have HB2 := Lib.hid (HB1.out.trans (hb2.mono HB1.out.size))
    clear hb2
    go_wp2_with fail
    go_ret
    exact ⟨rfl, HB2.out⟩
set_option maxRecDepth 20000 in
set_option maxHeartbeats 16000000 in
theorem bputs_no (m : MoV) (A : Option Addr) (c : Nat) (l : List UInt8) (w : World) (hr : m.Rd w (fun _ => True)) (hlm : l.length ≤ 9223372036854775807) (hrl : Reads w (fun _ => True) A (l.map vb)) (hT : LeastAt w) (hlg : (decide (5000 < m.sent.length) || decide (5000 < m.came.length) || decide (1000 < m.text.length)) = false) (hll : l.length ≤ 1000) (hok : m.d.ok = false) :
    Calls Tryd.prog 4 #[m.val, .slice A l.length c] w fun e w' => e = .returned (.bool true) ∧ Below w.heap.size w w' := by
  have hb0 := below_a1 w (.cells m.cells 45)
  have HK0 := Lib.hid (Blk.new w 45 m.cells)
  have HB0 := Lib.hid hb0
  have HR := Lib.hid (hr.mono (G := (· < w.heap.size)) (fun _ h _ => h))
  have HRL := Lib.hid (hrl.mono (G := (· < w.heap.size)) (fun _ h _ => h))
  have HT := Lib.hid hT
  have HLG := Lib.hid (rlarge_any m _ _ (hr.alloc (.cells m.cells 45)))
  rw [hlg] at HLG
  have HP := Lib.hid fun (W : World) (hb : Below w.heap.size w W) => bput_no m W _ (HR.out.below hb (fun _ _ h => h)) (HT.out.below hb) hok
  have HCK := Lib.hid fun (W : World) (hb : Below w.heap.size w W) => bcheck_any m W _ (HR.out.below hb (fun _ _ h => h)) (HT.out.below hb)
  have HRC := Lib.hid fun (W : World) (hb : Below w.heap.size w W) => rcheck_any m W _ (HR.out.below hb (fun _ _ h => h))
  rw [MD.err_no hok] at HCK
  rw [hok] at HRC
  clear hr hrl hT hb0 hlg hok
  generalize l.length = ll at *
  have hll' : ¬ (1000 : Int) < ll := by omega
  simp only [MoV.val] at *
  go_enter Tryd.func4, Tryd.ntmps4
  go_wp2_with (refine wpList_load_blk (by rfl) 45 (.tmp 2) rfl w.heap.size (by rfl) 45 m.cells _ HK0.out Tryd.underlying45 rfl (by kernel_rfl) ?_)
  refine HLG.out.mono ?_
  rintro e w1 ⟨rfl, hb1⟩
  have HB1 := Lib.hid (HB0.out.trans (hb1.mono HB0.out.size))
  have HK1 := Lib.hid (HK0.out.below hb1 HK0.out.lt)
  clear hb1
  go_wp2_with (refine wpList_load_blk (by rfl) 45 (.tmp 2) rfl w.heap.size (by rfl) 45 m.cells _ HK1.out Tryd.underlying45 rfl (by kernel_rfl) ?_)
  refine (HP.out _ HB1.out).mono ?_
  rintro e w2 ⟨rfl, hb2⟩
  have HB2 := Lib.hid (HB1.out.trans (hb2.mono HB1.out.size))
  have HK2 := Lib.hid (HK1.out.below hb2 HK1.out.lt)
  clear hb2
  go_wp2_with fail
  refine (bmp_lives _ (HT.out.below HB2.out)).mono ?_
  rintro e w3 ⟨rfl, hb3⟩
  have HB3 := Lib.hid (HB2.out.trans (hb3.mono HB2.out.size))
  have HK3 := Lib.hid (HK2.out.below hb3 HK2.out.lt)
  clear hb3
  go_wp2_with (refine wpList_load_blk (by rfl) 45 (.tmp 2) rfl w.heap.size (by rfl) 45 m.cells _ HK3.out Tryd.underlying45 rfl (by kernel_rfl) ?_)
  refine (HRC.out _ HB3.out).mono ?_
  rintro e w4 ⟨rfl, hb4⟩
  have HB4 := Lib.hid (HB3.out.trans (hb4.mono HB3.out.size))
  have HK4 := Lib.hid (HK3.out.below hb4 HK3.out.lt)
  clear hb4
  go_wp2_with (refine wpList_load_blk (by rfl) 45 (.tmp 2) rfl w.heap.size (by rfl) 45 m.cells _ HK4.out Tryd.underlying45 rfl (by kernel_rfl) ?_)
  refine (HCK.out _ HB4.out).mono ?_
  rintro e w5 ⟨rfl, hb5⟩
  have HB5 := Lib.hid (HB4.out.trans (hb5.mono HB4.out.size))
  clear hb5
  go_wp2_with fail
  go_ret
  exact ⟨rfl, HB5.out⟩
set_option maxRecDepth 20000 in
set_option maxHeartbeats 16000000 in
theorem bputs_ok (m : MoV) (A : Option Addr) (c : Nat) (l : List UInt8) (w : World) (hr : m.Rd w (fun _ => True)) (hu : m.d.u32) (hlm : l.length ≤ 9223372036854775807) (hrl : Reads w (fun _ => True) A (l.map vb)) (hT : LeastAt w) (hlg : (decide (5000 < m.sent.length) || decide (5000 < m.came.length) || decide (1000 < m.text.length)) = false) (hll : l.length ≤ 1000) (hok : m.d.ok = true) :
    Calls Tryd.prog 4 #[m.val, .slice A l.length c] w fun e w' => e = .returned (.bool true) ∧ Below w.heap.size w w' := by
  have hb0 := below_a1 w (.cells m.cells 45)
  have HK0 := Lib.hid (Blk.new w 45 m.cells)
  have HB0 := Lib.hid hb0
  have HR := Lib.hid (hr.mono (G := (· < w.heap.size)) (fun _ h _ => h))
  have HRL := Lib.hid (hrl.mono (G := (· < w.heap.size)) (fun _ h _ => h))
  have HT := Lib.hid hT
  have HLG := Lib.hid (rlarge_any m _ _ (hr.alloc (.cells m.cells 45)))
  obtain ⟨i0, hi0, hz0, hz1, hz2⟩ := info_parts infoU8
  rw [hlg] at HLG
  have HP := Lib.hid fun (W : World) (hb : Below w.heap.size w W) => bput_ok m W _ (HR.out.below hb (fun _ _ h => h)) (HT.out.below hb) hok hu
  have HBP := Lib.hid fun (W : World) (hb : Below w.heap.size w W) => rbput_ok m W _ (HR.out.below hb (fun _ _ h => h)) hok hu
  have HCK := Lib.hid fun (W : World) (hb : Below w.heap.size w W) => bcheck_any m W _ (HR.out.below hb (fun _ _ h => h)) (HT.out.below hb)
  have HRC := Lib.hid fun (W : World) (hb : Below w.heap.size w W) => rcheck_any m W _ (HR.out.below hb (fun _ _ h => h))
  have HSS := Lib.hid fun (x : MoV) (W : World) (hb : Below w.heap.size w W) (hx : x.Rd W (fun _ => True)) => rsame_any x m W _ _ hx (HR.out.below hb (fun _ _ h => h))
  have HGET := Lib.hid (bget_put m.d hok hu l)
  have HPL := Lib.hid (show m.d.put.length ≤ 8306 from by have h1 := m.d.put_length; have h2 := m.d.body_length hok; omega)
  rw [MD.err_ok hok] at HCK
  rw [hok] at HRC
  clear hr hrl hT hb0 hu hlg hok
  generalize m.d.put = pb at *
  generalize hpn : pb.length = pn at *
  have hpl := HPL.out
  have hll' : ¬ (1000 : Int) < (l.length : Int) := by omega
  simp only [MoV.val] at HLG HP HBP HCK HRC HSS ⊢
  go_enter Tryd.func4, Tryd.ntmps4
  go_wp2_with (refine wpList_load_blk (by rfl) 45 (.tmp 2) rfl w.heap.size (by rfl) 45 m.cells _ HK0.out Tryd.underlying45 rfl (by kernel_rfl) ?_)
  refine HLG.out.mono ?_
  rintro e w1 ⟨rfl, hb1⟩
  have HB1 := Lib.hid (HB0.out.trans (hb1.mono HB0.out.size))
  have HK1 := Lib.hid (HK0.out.below hb1 HK0.out.lt)
  clear hb1
  go_wp2_with (refine wpList_load_blk (by rfl) 45 (.tmp 2) rfl w.heap.size (by rfl) 45 m.cells _ HK1.out Tryd.underlying45 rfl (by kernel_rfl) ?_)
  refine (HP.out _ HB1.out).mono ?_
  rintro e w2 ⟨A1, c1, rfl, o2, hb2⟩
  obtain ⟨A1', c1', hv2, hlc2, hcm2, -, rd2⟩ := own_reads o2
  injection hv2 with e1 e2 e3
  subst e1 e3
  have HB2 := Lib.hid (HB1.out.trans (hb2.mono HB1.out.size))
  have HK2 := Lib.hid (HK1.out.below hb2 HK1.out.lt)
  have HRB2 := Lib.hid (rd2.mono (G := (· < w2.heap.size)) (fun _ h _ => h))
  clear hb2 o2 rd2
  go_wp2_with fail
  refine (bmp_lives _ (HT.out.below HB2.out)).mono ?_
  rintro e w3 ⟨rfl, hb3⟩
  have HB3 := Lib.hid (HB2.out.trans (hb3.mono HB2.out.size))
  have HK3 := Lib.hid (HK2.out.below hb3 HK2.out.lt)
  have HRB3 := Lib.hid ((HRB2.out.below hb3 (fun _ _ h => h)).mono (G := (· < w3.heap.size)) (fun _ h _ => h))
  clear hb3
  go_wp2_with (refine wpList_load_blk (by rfl) 45 (.tmp 2) rfl w.heap.size (by rfl) 45 m.cells _ HK3.out Tryd.underlying45 rfl (by kernel_rfl) ?_)
  refine (HRC.out _ HB3.out).mono ?_
  rintro e w4 ⟨rfl, hb4⟩
  have HB4 := Lib.hid (HB3.out.trans (hb4.mono HB3.out.size))
  have HK4 := Lib.hid (HK3.out.below hb4 HK3.out.lt)
  have HRB4 := Lib.hid ((HRB3.out.below hb4 (fun _ _ h => h)).mono (G := (· < w4.heap.size)) (fun _ h _ => h))
  have HRL4 := Lib.hid ((HRL.out.below HB4.out (fun _ _ h => h)).mono (G := (· < w4.heap.size)) (fun _ h _ => h))
  clear hb4
  have b5 := below_a1 w4 (.cells #[] 5)
  have hE5 : (w4.alloc (.cells #[] 5)).ownsRow w4.heap.size 5 1 (.slice (some ⟨w4.heap.size, 0, none⟩) 0 0) 0 (([] : List UInt8).map vb) := own_empty _ _ _ _ _ (Nat.le_refl _) (heap_alloc_new w4 _)
  have hr5 := (HRB4.out.below b5 (fun _ _ h => h)).mono (G := fun _ => True) (fun _ _ _ => trivial)
  go_wp2_with (refine wpList_append_rd _ (by rfl) (.tmp 41) (.tmp 42) 25 rfl w4.heap.size 5 i0 (.int .u8 0) 1 1 Tryd.underlying25 hi0 hz0 hz1 hz2 rfl (by omega) _ 0 ((([] : List UInt8)).map vb) (by rfl) hE5 (fun _ => True) A1 pn c1 ((pb).map vb) (by rfl) (by simp [*]) hr5 (vb_one _) (by unfold maxLen; omega) (by omega) (by simp) ?_)
  intro v5 w5 hown5 hg5 _
  obtain ⟨A5, c5, hv5, -, -, -, -⟩ := own_reads hown5
  subst hv5
  have b5' := below_append b5 b5.size hE5 hg5
  have HB5 := Lib.hid b5'
  have hr6 := (HRL4.out.below b5' (fun _ _ h => h)).mono (G := fun _ => True) (fun _ _ _ => trivial)
  have hw5 : w4.heap.size ≤ w5.heap.size := b5'.size
  clear b5 hE5 hr5 hg5 b5'
  go_wp2_with (refine wpList_append_rd _ (by rfl) (.tmp 43) (.tmp 44) 25 rfl w4.heap.size 5 i0 (.int .u8 0) 1 1 Tryd.underlying25 hi0 hz0 hz1 hz2 rfl (by omega) _ pn ((pb).map vb) (by rfl) hown5 (fun _ => True) A l.length c ((l).map vb) (by rfl) (by simp [*]) hr6 (vb_one _) (by unfold maxLen; omega) (by omega) hw5 ?_)
  intro v6 w6 hown6 hg6 _
  obtain ⟨A6, c6, hv6, hlc6, -, -, rd6⟩ := own_reads hown6
  subst hv6
  have HB6 := Lib.hid (HB4.out.trans ((below_append HB5.out HB5.out.size hown5 hg6).mono HB4.out.size))
  have HK6 := Lib.hid (HK4.out.below (below_append HB5.out HB5.out.size hown5 hg6) HK4.out.lt)
  have HRB6 := Lib.hid ((HRB4.out.below (below_append HB5.out HB5.out.size hown5 hg6) (fun _ _ h => h)).mono (G := (· < w6.heap.size)) (fun _ h _ => h))
  have rd6' : Reads w6 (fun _ => True) A6 ((pb ++ l).map vb) := by rw [List.map_append]; exact rd6.mono (fun _ _ _ => trivial)
  have hpl6 : (pb ++ l).length = pn + l.length := by rw [List.length_append, hpn]
  have HG := bget_any A6 c6 (pb ++ l) _ w6 (by rw [hpl6]; exact hlc6) (by rw [hpl6]; omega) rd6' (HT.out.below HB6.out)
  rw [hpl6] at HG
  have HG := Lib.hid HG
  clear hown5 hown6 hg6 hr6 hw5 rd6 rd6' hlc6 hpl6
  go_wp2_with fail
  refine HG.out.mono ?_
  rintro e w7 ⟨-, hyes, hb7⟩
  obtain ⟨mx, hmd, rfl, hmr⟩ := hyes _ _ HGET.out
  have b8 := below_a1 w7 (.cells mx.cells 45)
  have hb8 := hb7.trans (b8.mono hb7.size)
  have HB8 := Lib.hid (HB6.out.trans (hb8.mono HB6.out.size))
  have HK8 := Lib.hid (HK6.out.below hb8 HK6.out.lt)
  have HX8 := Lib.hid (Blk.new w7 45 mx.cells)
  have HRB8 := Lib.hid (HRB6.out.below hb8 (fun _ _ h => h))
  have HRX8 := Lib.hid ((hmr.mono (G := (· < w7.heap.size)) (fun _ h _ => h)).alloc (.cells mx.cells 45))
  have HMD := Lib.hid hmd
  have HPN := Lib.hid hpn
  have hs68 : w6.heap.size ≤ (w7.alloc (.cells mx.cells 45)).heap.size := hb8.size
  clear hyes hmd hmr hb7 b8 hb8 HG
  simp only [MoV.val]
  go_upto_region 9 with (refine wpList_store_new (by rfl) 45 (.tmp 7) (.tmp 47) rfl w7 _ mx.cells rfl (by rfl) (by rfl) (by kernel_rfl) (by rfl) (mon_one _) ?_)
  obtain ⟨wE, hwE⟩ : ∃ wE, w7.alloc (.cells mx.cells 45) = wE := ⟨_, rfl⟩
  rw [hwE] at HB8 HK8 HX8 HRB8 HRX8 hs68 ⊢
  obtain ⟨g, hg⟩ : ∃ g, w7.heap.size = g := ⟨_, rfl⟩
  rw [hg] at HX8 HRX8 ⊢
  obtain ⟨qb, hqb⟩ : ∃ qb, qb = str pb := ⟨_, rfl⟩
  have HTR := Lib.hid fun (W W' : World) (h : Below wE.heap.size wE W) (hb : Below W.heap.size W W') => h.trans (hb.mono h.size)
  have HFIN := Lib.hid fun (W : World) (h : Below wE.heap.size wE W) => HB8.out.trans (h.mono HB8.out.size)
  have HCV := Lib.hid fun (W : World) (h : Below wE.heap.size wE W) => (show (convert 25 9 (.slice A1 pn c1)).run Tryd.prog W = .ok (.string qb) W from by
    rw [hqb]; exact own_str2 (HRB8.out.below h (fun _ hl _ => hl)) HPN.out)
  have HBD := Lib.hid fun (W : World) (h : Below wE.heap.size wE W) => (HBP.out W (HFIN.out W h)).mono fun e w' hh => (show ∃ A3 c3, e = .returned (.slice A3 pn c3) ∧ Hid ((convert 25 9 (.slice A3 pn c3)).run Tryd.prog w' = .ok (.string qb) w') ∧ Below W.heap.size W w' from by
    obtain ⟨A3, c3, he, ho, hb⟩ := hh
    obtain ⟨A3', c3', hv, -, -, -, rd⟩ := own_reads ho
    injection hv with e1 e2 e3
    subst e1 e3
    exact ⟨_, _, he, Lib.hid (by rw [hqb]; exact own_str2 rd HPN.out), hb⟩)
  have HSM := Lib.hid fun (W : World) (h : Below wE.heap.size wE W) => HSS.out mx W (HFIN.out W h) ((HRX8.out.below h (fun _ hl _ => hl)).mono (fun _ _ _ => trivial))
  rw [show decide (mx.d = m.d) = true from by rw [HMD.out]; simp] at HSM
  have HCK := Lib.hid fun (W : World) (h : Below wE.heap.size wE W) => HCK.out W (HFIN.out W h)
  have hqqb : (qb.toList == qb.toList) = true := by simp
  have hB0 : Below wE.heap.size wE wE.drew := ⟨rfl, rfl, rfl, Nat.le_refl _, fun _ _ => rfl⟩
  clear hqb hwE hg hs68 HRX8 HSS HMD HBP HRC HLG HP HGET HRL HRL4 HR HPN hpn
  obtain ⟨kind, id, addr, asn, time, reason, own, sA, sc, sent, cA, cc, came, text⟩ := m
  obtain ⟨xkind, xid, xaddr, xasn, xtime, xreason, xown, xsA, xsc, xsent, xcA, xcc, xcame, xtext⟩ := mx
  simp only [MoV.cells] at *
  generalize sent.length = sl at *
  generalize came.length = cl at *
  generalize str text = tx at *
  generalize xsent.length = xsl at *
  generalize xcame.length = xcl at *
  generalize str xtext = xtx at *
  have HCS := Lib.hid fun (W : World) (h : Below wE.heap.size wE W) => (show W.cell? ⟨w.heap.size, 0, none⟩ = some (.int .i64 kind) ∧ W.cell? ⟨w.heap.size, 1, none⟩ = some (.int .u32 id) ∧ W.cell? ⟨w.heap.size, 2, none⟩ = some (.int .u32 addr) ∧ W.cell? ⟨w.heap.size, 3, none⟩ = some (.int .i64 asn) ∧ W.cell? ⟨w.heap.size, 4, none⟩ = some (.int .i64 time) ∧ W.cell? ⟨w.heap.size, 5, none⟩ = some (.int .i64 reason) ∧ W.cell? ⟨w.heap.size, 6, none⟩ = some (.int .u32 own) ∧ W.cell? ⟨w.heap.size, 7, none⟩ = some (.slice sA sl sc) ∧ W.cell? ⟨w.heap.size, 8, none⟩ = some (.slice cA cl cc) ∧ W.cell? ⟨w.heap.size, 9, none⟩ = some (.string tx) ∧ W.cell? ⟨g, 0, none⟩ = some (.int .i64 xkind) ∧ W.cell? ⟨g, 1, none⟩ = some (.int .u32 xid) ∧ W.cell? ⟨g, 2, none⟩ = some (.int .u32 xaddr) ∧ W.cell? ⟨g, 3, none⟩ = some (.int .i64 xasn) ∧ W.cell? ⟨g, 4, none⟩ = some (.int .i64 xtime) ∧ W.cell? ⟨g, 5, none⟩ = some (.int .i64 xreason) ∧ W.cell? ⟨g, 6, none⟩ = some (.int .u32 xown) ∧ W.cell? ⟨g, 7, none⟩ = some (.slice xsA xsl xsc) ∧ W.cell? ⟨g, 8, none⟩ = some (.slice xcA xcl xcc) ∧ W.cell? ⟨g, 9, none⟩ = some (.string xtx) ∧ (convert 25 9 (.slice A1 pn c1)).run Tryd.prog W = .ok (.string qb) W from by
    obtain ⟨p0, p1, p2, p3, p4, p5, p6, p7, p8, p9⟩ := blk10 (HK8.out.below h HK8.out.lt)
    obtain ⟨r0, r1, r2, r3, r4, r5, r6, r7, r8, r9⟩ := blk10 (HX8.out.below h HX8.out.lt)
    exact ⟨p0, p1, p2, p3, p4, p5, p6, p7, p8, p9, r0, r1, r2, r3, r4, r5, r6, r7, r8, r9, HCV.out W h⟩)
  refine wp_region_held_drew (S := (fun W => W.cell? ⟨w.heap.size, 0, none⟩ = some (.int .i64 kind) ∧ W.cell? ⟨w.heap.size, 1, none⟩ = some (.int .u32 id) ∧ W.cell? ⟨w.heap.size, 2, none⟩ = some (.int .u32 addr) ∧ W.cell? ⟨w.heap.size, 3, none⟩ = some (.int .i64 asn) ∧ W.cell? ⟨w.heap.size, 4, none⟩ = some (.int .i64 time) ∧ W.cell? ⟨w.heap.size, 5, none⟩ = some (.int .i64 reason) ∧ W.cell? ⟨w.heap.size, 6, none⟩ = some (.int .u32 own) ∧ W.cell? ⟨w.heap.size, 7, none⟩ = some (.slice sA sl sc) ∧ W.cell? ⟨w.heap.size, 8, none⟩ = some (.slice cA cl cc) ∧ W.cell? ⟨w.heap.size, 9, none⟩ = some (.string tx) ∧ W.cell? ⟨g, 0, none⟩ = some (.int .i64 xkind) ∧ W.cell? ⟨g, 1, none⟩ = some (.int .u32 xid) ∧ W.cell? ⟨g, 2, none⟩ = some (.int .u32 xaddr) ∧ W.cell? ⟨g, 3, none⟩ = some (.int .i64 xasn) ∧ W.cell? ⟨g, 4, none⟩ = some (.int .i64 xtime) ∧ W.cell? ⟨g, 5, none⟩ = some (.int .i64 xreason) ∧ W.cell? ⟨g, 6, none⟩ = some (.int .u32 xown) ∧ W.cell? ⟨g, 7, none⟩ = some (.slice xsA xsl xsc) ∧ W.cell? ⟨g, 8, none⟩ = some (.slice xcA xcl xcc) ∧ W.cell? ⟨g, 9, none⟩ = some (.string xtx) ∧ (convert 25 9 (.slice A1 pn c1)).run Tryd.prog W = .ok (.string qb) W)) (by kernel_rfl) (HCS.out _ hB0) (fun hHeld => ?_)
  refine wpAnyH_take (i := 0) (v := ?_) (by first | (simp only [List.getElem?_toArray, List.getElem?_cons_zero]; done) | (simp only [List.getElem?_toArray, List.getElem?_cons_zero]; rfl)) (by kernel_rfl) (by kernel_rfl) (by kernel_rfl) (by exact fun _ _ _ h => h) (Or.inl ⟨by rfl, ?_⟩) (by assumption) ?_
  rotate_left
  · (intro w hSw; (try dsimp only at hSw); first | (go_simp; done) | (go_simp; with_reducible rfl))
  simp only [Act.put, List.setIfInBounds_toArray, List.set_cons_zero, List.set_cons_succ]
  refine wpAnyH_take (i := 1) (v := ?_) (by first | (simp only [List.getElem?_toArray, List.getElem?_cons_succ, List.getElem?_cons_zero]; done) | (simp only [List.getElem?_toArray, List.getElem?_cons_succ, List.getElem?_cons_zero]; rfl)) (by kernel_rfl) (by kernel_rfl) (by kernel_rfl) (by exact fun _ _ _ h => h) (Or.inl ⟨by rfl, ?_⟩) (by assumption) ?_
  rotate_left
  · (intro w hSw; (try dsimp only at hSw); first | (go_simp; done) | (go_simp; with_reducible rfl))
  simp only [Act.put, List.setIfInBounds_toArray, List.set_cons_zero, List.set_cons_succ]
  refine wpAnyH_take (i := 2) (v := ?_) (by first | (simp only [List.getElem?_toArray, List.getElem?_cons_succ, List.getElem?_cons_zero]; done) | (simp only [List.getElem?_toArray, List.getElem?_cons_succ, List.getElem?_cons_zero]; rfl)) (by kernel_rfl) (by kernel_rfl) (by kernel_rfl) (by exact fun _ _ _ h => h) (Or.inl ⟨by rfl, ?_⟩) (by assumption) ?_
  rotate_left
  · (intro w hSw; (try dsimp only at hSw); first | (go_simp; done) | (go_simp; with_reducible rfl))
  simp only [Act.put, List.setIfInBounds_toArray, List.set_cons_zero, List.set_cons_succ]
  refine wpAnyH_take (i := 3) (v := ?_) (by first | (simp only [List.getElem?_toArray, List.getElem?_cons_succ, List.getElem?_cons_zero]; done) | (simp only [List.getElem?_toArray, List.getElem?_cons_succ, List.getElem?_cons_zero]; rfl)) (by kernel_rfl) (by kernel_rfl) (by kernel_rfl) (by exact fun _ _ _ h => h) (Or.inl ⟨by rfl, ?_⟩) (by assumption) ?_
  rotate_left
  · (intro w hSw; (try dsimp only at hSw); first | (go_simp; done) | (go_simp; with_reducible rfl))
  simp only [Act.put, List.setIfInBounds_toArray, List.set_cons_zero, List.set_cons_succ]
  refine wpAnyH_ready (rs := [4]) (by kernel_rfl) (by simp) ?_
  refine AllReadyH.cons (by first | (simp only [List.getElem?_toArray, List.getElem?_cons_succ, List.getElem?_cons_zero]; done) | (simp only [List.getElem?_toArray, List.getElem?_cons_succ, List.getElem?_cons_zero]; rfl)) (fun K hK => ?_) AllReadyH.nil
  go_simp
  refine (HCK.out _ hB0).mono ?_
  rintro e W6 ⟨rfl, hb6⟩
  have hB6 := HTR.out _ _ hB0 hb6
  go_wp2_with fail
  refine hK.out _ _ (HCS.out _ hB6) (fun hHeld => ?_)
  clear hK K
  try simp only [Act.put, List.setIfInBounds_toArray, List.set_cons_zero, List.set_cons_succ]
  refine wpAnyH_take (i := 5) (v := ?_) (by first | (simp only [List.getElem?_toArray, List.getElem?_cons_succ, List.getElem?_cons_zero]; done) | (simp only [List.getElem?_toArray, List.getElem?_cons_succ, List.getElem?_cons_zero]; rfl)) (by kernel_rfl) (by kernel_rfl) (by kernel_rfl) (by exact fun _ _ _ h => h) (Or.inl ⟨by rfl, ?_⟩) (by assumption) ?_
  rotate_left
  · (intro w hSw; (try dsimp only at hSw); first | (go_simp; done) | (go_simp; with_reducible rfl))
  simp only [Act.put, List.setIfInBounds_toArray, List.set_cons_zero, List.set_cons_succ]
  refine wpAnyH_take (i := 6) (v := ?_) (by first | (simp only [List.getElem?_toArray, List.getElem?_cons_succ, List.getElem?_cons_zero]; done) | (simp only [List.getElem?_toArray, List.getElem?_cons_succ, List.getElem?_cons_zero]; rfl)) (by kernel_rfl) (by kernel_rfl) (by kernel_rfl) (by exact fun _ _ _ h => h) (Or.inl ⟨by rfl, ?_⟩) (by assumption) ?_
  rotate_left
  · (intro w hSw; (try dsimp only at hSw); first | (go_simp; done) | (go_simp; with_reducible rfl))
  simp only [Act.put, List.setIfInBounds_toArray, List.set_cons_zero, List.set_cons_succ]
  refine wpAnyH_take (i := 7) (v := ?_) (by first | (simp only [List.getElem?_toArray, List.getElem?_cons_succ, List.getElem?_cons_zero]; done) | (simp only [List.getElem?_toArray, List.getElem?_cons_succ, List.getElem?_cons_zero]; rfl)) (by kernel_rfl) (by kernel_rfl) (by kernel_rfl) (by exact fun _ _ _ h => h) (Or.inl ⟨by rfl, ?_⟩) (by assumption) ?_
  rotate_left
  · (intro w hSw; (try dsimp only at hSw); first | (go_simp; done) | (go_simp; with_reducible rfl))
  simp only [Act.put, List.setIfInBounds_toArray, List.set_cons_zero, List.set_cons_succ]
  refine wpAnyH_take (i := 8) (v := ?_) (by first | (simp only [List.getElem?_toArray, List.getElem?_cons_succ, List.getElem?_cons_zero]; done) | (simp only [List.getElem?_toArray, List.getElem?_cons_succ, List.getElem?_cons_zero]; rfl)) (by kernel_rfl) (by kernel_rfl) (by kernel_rfl) (by exact fun _ _ _ h => h) (Or.inl ⟨by rfl, ?_⟩) (by assumption) ?_
  rotate_left
  · (intro w hSw; (try dsimp only at hSw); first | (go_simp; done) | (go_simp; with_reducible rfl))
  simp only [Act.put, List.setIfInBounds_toArray, List.set_cons_zero, List.set_cons_succ]
  refine wpAnyH_take (i := 9) (v := ?_) (by first | (simp only [List.getElem?_toArray, List.getElem?_cons_succ, List.getElem?_cons_zero]; done) | (simp only [List.getElem?_toArray, List.getElem?_cons_succ, List.getElem?_cons_zero]; rfl)) (by kernel_rfl) (by kernel_rfl) (by kernel_rfl) (by exact fun _ _ _ h => h) (Or.inl ⟨by rfl, ?_⟩) (by assumption) ?_
  rotate_left
  · (intro w hSw; (try dsimp only at hSw); first | (go_simp; done) | (go_simp; with_reducible rfl))
  simp only [Act.put, List.setIfInBounds_toArray, List.set_cons_zero, List.set_cons_succ]
  refine wpAnyH_take (i := 10) (v := ?_) (by first | (simp only [List.getElem?_toArray, List.getElem?_cons_succ, List.getElem?_cons_zero]; done) | (simp only [List.getElem?_toArray, List.getElem?_cons_succ, List.getElem?_cons_zero]; rfl)) (by kernel_rfl) (by kernel_rfl) (by kernel_rfl) (by exact fun _ _ _ h => h) (Or.inl ⟨by rfl, ?_⟩) (by assumption) ?_
  rotate_left
  · (intro w hSw; (try dsimp only at hSw); first | (go_simp; done) | (go_simp; with_reducible rfl))
  simp only [Act.put, List.setIfInBounds_toArray, List.set_cons_zero, List.set_cons_succ]
  refine wpAnyH_ready (rs := [11]) (by kernel_rfl) (by simp) ?_
  refine AllReadyH.cons (by first | (simp only [List.getElem?_toArray, List.getElem?_cons_succ, List.getElem?_cons_zero]; done) | (simp only [List.getElem?_toArray, List.getElem?_cons_succ, List.getElem?_cons_zero]; rfl)) (fun K hK => ?_) AllReadyH.nil
  go_simp
  refine (HBD.out _ hB6).mono ?_
  rintro e W7 ⟨A3, c3, rfl, hcv, hb7⟩
  have hB7 := HTR.out _ _ hB6 hb7
  have hcv7 := hcv.out
  go_wp2_with fail
  refine hK.out _ _ (HCS.out _ hB7) (fun hHeld => ?_)
  clear hK K
  try simp only [Act.put, List.setIfInBounds_toArray, List.set_cons_zero, List.set_cons_succ]
  refine wpAnyH_ready (rs := [12]) (by kernel_rfl) (by simp) ?_
  refine AllReadyH.cons (by first | (simp only [List.getElem?_toArray, List.getElem?_cons_succ, List.getElem?_cons_zero]; done) | (simp only [List.getElem?_toArray, List.getElem?_cons_succ, List.getElem?_cons_zero]; rfl)) (fun K hK => ?_) AllReadyH.nil
  go_simp
  refine hK.out _ _ (HCS.out _ hB7) (fun hHeld => ?_)
  clear hK K
  try simp only [Act.put, List.setIfInBounds_toArray, List.set_cons_zero, List.set_cons_succ]
  refine wpAnyH_take (i := 13) (v := ?_) (by first | (simp only [List.getElem?_toArray, List.getElem?_cons_succ, List.getElem?_cons_zero]; done) | (simp only [List.getElem?_toArray, List.getElem?_cons_succ, List.getElem?_cons_zero]; rfl)) (by kernel_rfl) (by kernel_rfl) (by kernel_rfl) (by exact fun _ _ _ h => h) (Or.inl ⟨by rfl, ?_⟩) (by assumption) ?_
  rotate_left
  · (intro w hSw; (try dsimp only at hSw); first | (go_simp; done) | (go_simp; with_reducible rfl))
  simp only [Act.put, List.setIfInBounds_toArray, List.set_cons_zero, List.set_cons_succ]
  refine wpAnyH_take (i := 14) (v := ?_) (by first | (simp only [List.getElem?_toArray, List.getElem?_cons_succ, List.getElem?_cons_zero]; done) | (simp only [List.getElem?_toArray, List.getElem?_cons_succ, List.getElem?_cons_zero]; rfl)) (by kernel_rfl) (by kernel_rfl) (by kernel_rfl) (by exact fun _ _ _ h => h) (Or.inl ⟨by rfl, ?_⟩) (by assumption) ?_
  rotate_left
  · (intro w hSw; (try dsimp only at hSw); first | (go_simp; done) | (go_simp; with_reducible rfl))
  simp only [Act.put, List.setIfInBounds_toArray, List.set_cons_zero, List.set_cons_succ]
  refine wpAnyH_take (i := 15) (v := ?_) (by first | (simp only [List.getElem?_toArray, List.getElem?_cons_succ, List.getElem?_cons_zero]; done) | (simp only [List.getElem?_toArray, List.getElem?_cons_succ, List.getElem?_cons_zero]; rfl)) (by kernel_rfl) (by kernel_rfl) (by kernel_rfl) (by exact fun _ _ _ h => h) (Or.inl ⟨by rfl, ?_⟩) (by assumption) ?_
  rotate_left
  · (intro w hSw; (try dsimp only at hSw); first | (go_simp; done) | (go_simp; with_reducible rfl))
  simp only [Act.put, List.setIfInBounds_toArray, List.set_cons_zero, List.set_cons_succ]
  refine wpAnyH_take (i := 16) (v := ?_) (by first | (simp only [List.getElem?_toArray, List.getElem?_cons_succ, List.getElem?_cons_zero]; done) | (simp only [List.getElem?_toArray, List.getElem?_cons_succ, List.getElem?_cons_zero]; rfl)) (by kernel_rfl) (by kernel_rfl) (by kernel_rfl) (by exact fun _ _ _ h => h) (Or.inl ⟨by rfl, ?_⟩) (by assumption) ?_
  rotate_left
  · (intro w hSw; (try dsimp only at hSw); first | (go_simp; done) | (go_simp; with_reducible rfl))
  simp only [Act.put, List.setIfInBounds_toArray, List.set_cons_zero, List.set_cons_succ]
  refine wpAnyH_take (i := 17) (v := ?_) (by first | (simp only [List.getElem?_toArray, List.getElem?_cons_succ, List.getElem?_cons_zero]; done) | (simp only [List.getElem?_toArray, List.getElem?_cons_succ, List.getElem?_cons_zero]; rfl)) (by kernel_rfl) (by kernel_rfl) (by kernel_rfl) (by exact fun _ _ _ h => h) (Or.inl ⟨by rfl, ?_⟩) (by assumption) ?_
  rotate_left
  · (intro w hSw; (try dsimp only at hSw); first | (go_simp; done) | (go_simp; with_reducible rfl))
  simp only [Act.put, List.setIfInBounds_toArray, List.set_cons_zero, List.set_cons_succ]
  refine wpAnyH_take (i := 18) (v := ?_) (by first | (simp only [List.getElem?_toArray, List.getElem?_cons_succ, List.getElem?_cons_zero]; done) | (simp only [List.getElem?_toArray, List.getElem?_cons_succ, List.getElem?_cons_zero]; rfl)) (by kernel_rfl) (by kernel_rfl) (by kernel_rfl) (by exact fun _ _ _ h => h) (Or.inl ⟨by rfl, ?_⟩) (by assumption) ?_
  rotate_left
  · (intro w hSw; (try dsimp only at hSw); first | (go_simp; done) | (go_simp; with_reducible rfl))
  simp only [Act.put, List.setIfInBounds_toArray, List.set_cons_zero, List.set_cons_succ]
  refine wpAnyH_take (i := 19) (v := ?_) (by first | (simp only [List.getElem?_toArray, List.getElem?_cons_succ, List.getElem?_cons_zero]; done) | (simp only [List.getElem?_toArray, List.getElem?_cons_succ, List.getElem?_cons_zero]; rfl)) (by kernel_rfl) (by kernel_rfl) (by kernel_rfl) (by exact fun _ _ _ h => h) (Or.inl ⟨by rfl, ?_⟩) (by assumption) ?_
  rotate_left
  · (intro w hSw; (try dsimp only at hSw); first | (go_simp; done) | (go_simp; with_reducible rfl))
  simp only [Act.put, List.setIfInBounds_toArray, List.set_cons_zero, List.set_cons_succ]
  refine wpAnyH_take (i := 20) (v := ?_) (by first | (simp only [List.getElem?_toArray, List.getElem?_cons_succ, List.getElem?_cons_zero]; done) | (simp only [List.getElem?_toArray, List.getElem?_cons_succ, List.getElem?_cons_zero]; rfl)) (by kernel_rfl) (by kernel_rfl) (by kernel_rfl) (by exact fun _ _ _ h => h) (Or.inl ⟨by rfl, ?_⟩) (by assumption) ?_
  rotate_left
  · (intro w hSw; (try dsimp only at hSw); first | (go_simp; done) | (go_simp; with_reducible rfl))
  simp only [Act.put, List.setIfInBounds_toArray, List.set_cons_zero, List.set_cons_succ]
  refine wpAnyH_take (i := 21) (v := ?_) (by first | (simp only [List.getElem?_toArray, List.getElem?_cons_succ, List.getElem?_cons_zero]; done) | (simp only [List.getElem?_toArray, List.getElem?_cons_succ, List.getElem?_cons_zero]; rfl)) (by kernel_rfl) (by kernel_rfl) (by kernel_rfl) (by exact fun _ _ _ h => h) (Or.inl ⟨by rfl, ?_⟩) (by assumption) ?_
  rotate_left
  · (intro w hSw; (try dsimp only at hSw); first | (go_simp; done) | (go_simp; with_reducible rfl))
  simp only [Act.put, List.setIfInBounds_toArray, List.set_cons_zero, List.set_cons_succ]
  refine wpAnyH_take (i := 22) (v := ?_) (by first | (simp only [List.getElem?_toArray, List.getElem?_cons_succ, List.getElem?_cons_zero]; done) | (simp only [List.getElem?_toArray, List.getElem?_cons_succ, List.getElem?_cons_zero]; rfl)) (by kernel_rfl) (by kernel_rfl) (by kernel_rfl) (by exact fun _ _ _ h => h) (Or.inl ⟨by rfl, ?_⟩) (by assumption) ?_
  rotate_left
  · (intro w hSw; (try dsimp only at hSw); first | (go_simp; done) | (go_simp; with_reducible rfl))
  simp only [Act.put, List.setIfInBounds_toArray, List.set_cons_zero, List.set_cons_succ]
  refine wpAnyH_take (i := 23) (v := ?_) (by first | (simp only [List.getElem?_toArray, List.getElem?_cons_succ, List.getElem?_cons_zero]; done) | (simp only [List.getElem?_toArray, List.getElem?_cons_succ, List.getElem?_cons_zero]; rfl)) (by kernel_rfl) (by kernel_rfl) (by kernel_rfl) (by exact fun _ _ _ h => h) (Or.inl ⟨by rfl, ?_⟩) (by assumption) ?_
  rotate_left
  · (intro w hSw; (try dsimp only at hSw); first | (go_simp; done) | (go_simp; with_reducible rfl))
  simp only [Act.put, List.setIfInBounds_toArray, List.set_cons_zero, List.set_cons_succ]
  refine wpAnyH_take (i := 24) (v := ?_) (by first | (simp only [List.getElem?_toArray, List.getElem?_cons_succ, List.getElem?_cons_zero]; done) | (simp only [List.getElem?_toArray, List.getElem?_cons_succ, List.getElem?_cons_zero]; rfl)) (by kernel_rfl) (by kernel_rfl) (by kernel_rfl) (by exact fun _ _ _ h => h) (Or.inl ⟨by rfl, ?_⟩) (by assumption) ?_
  rotate_left
  · (intro w hSw; (try dsimp only at hSw); first | (go_simp; done) | (go_simp; with_reducible rfl))
  simp only [Act.put, List.setIfInBounds_toArray, List.set_cons_zero, List.set_cons_succ]
  refine wpAnyH_take (i := 25) (v := ?_) (by first | (simp only [List.getElem?_toArray, List.getElem?_cons_succ, List.getElem?_cons_zero]; done) | (simp only [List.getElem?_toArray, List.getElem?_cons_succ, List.getElem?_cons_zero]; rfl)) (by kernel_rfl) (by kernel_rfl) (by kernel_rfl) (by exact fun _ _ _ h => h) (Or.inl ⟨by rfl, ?_⟩) (by assumption) ?_
  rotate_left
  · (intro w hSw; (try dsimp only at hSw); first | (go_simp; done) | (go_simp; with_reducible rfl))
  simp only [Act.put, List.setIfInBounds_toArray, List.set_cons_zero, List.set_cons_succ]
  refine wpAnyH_take (i := 26) (v := ?_) (by first | (simp only [List.getElem?_toArray, List.getElem?_cons_succ, List.getElem?_cons_zero]; done) | (simp only [List.getElem?_toArray, List.getElem?_cons_succ, List.getElem?_cons_zero]; rfl)) (by kernel_rfl) (by kernel_rfl) (by kernel_rfl) (by exact fun _ _ _ h => h) (Or.inl ⟨by rfl, ?_⟩) (by assumption) ?_
  rotate_left
  · (intro w hSw; (try dsimp only at hSw); first | (go_simp; done) | (go_simp; with_reducible rfl))
  simp only [Act.put, List.setIfInBounds_toArray, List.set_cons_zero, List.set_cons_succ]
  refine wpAnyH_take (i := 27) (v := ?_) (by first | (simp only [List.getElem?_toArray, List.getElem?_cons_succ, List.getElem?_cons_zero]; done) | (simp only [List.getElem?_toArray, List.getElem?_cons_succ, List.getElem?_cons_zero]; rfl)) (by kernel_rfl) (by kernel_rfl) (by kernel_rfl) (by exact fun _ _ _ h => h) (Or.inl ⟨by rfl, ?_⟩) (by assumption) ?_
  rotate_left
  · (intro w hSw; (try dsimp only at hSw); first | (go_simp; done) | (go_simp; with_reducible rfl))
  simp only [Act.put, List.setIfInBounds_toArray, List.set_cons_zero, List.set_cons_succ]
  refine wpAnyH_ready (rs := [28]) (by kernel_rfl) (by simp) ?_
  refine AllReadyH.cons (by first | (simp only [List.getElem?_toArray, List.getElem?_cons_succ, List.getElem?_cons_zero]; done) | (simp only [List.getElem?_toArray, List.getElem?_cons_succ, List.getElem?_cons_zero]; rfl)) (fun K hK => ?_) AllReadyH.nil
  go_simp
  refine (HSM.out _ hB7).mono ?_
  rintro e W8 ⟨rfl, hb8⟩
  have hB8 := HTR.out _ _ hB7 hb8
  go_wp2_with fail
  refine hK.out _ _ (HCS.out _ hB8) (fun hHeld => ?_)
  clear hK K
  try simp only [Act.put, List.setIfInBounds_toArray, List.set_cons_zero, List.set_cons_succ]
  refine wpAnyH_take (i := 29) (v := ?_) (by first | (simp only [List.getElem?_toArray, List.getElem?_cons_succ, List.getElem?_cons_zero]; done) | (simp only [List.getElem?_toArray, List.getElem?_cons_succ, List.getElem?_cons_zero]; rfl)) (by kernel_rfl) (by kernel_rfl) (by kernel_rfl) (by exact fun _ _ _ h => h) (Or.inl ⟨by rfl, ?_⟩) (by assumption) ?_
  rotate_left
  · (intro w hSw; (try dsimp only at hSw); first | (go_simp; done) | (go_simp; with_reducible rfl))
  simp only [Act.put, List.setIfInBounds_toArray, List.set_cons_zero, List.set_cons_succ]
  refine wpAnyH_take (i := 30) (v := ?_) (by first | (simp only [List.getElem?_toArray, List.getElem?_cons_succ, List.getElem?_cons_zero]; done) | (simp only [List.getElem?_toArray, List.getElem?_cons_succ, List.getElem?_cons_zero]; rfl)) (by kernel_rfl) (by kernel_rfl) (by kernel_rfl) (by exact fun _ _ _ h => h) (Or.inl ⟨by rfl, ?_⟩) (by assumption) ?_
  rotate_left
  · (intro w hSw; (try dsimp only at hSw); first | (go_simp; done) | (go_simp; with_reducible rfl))
  simp only [Act.put, List.setIfInBounds_toArray, List.set_cons_zero, List.set_cons_succ]
  refine wpAnyH_done (by kernel_rfl) ?_ _
  go_wp2_with fail
  go_ret
  exact ⟨rfl, HFIN.out _ hB8⟩
theorem bputs_walk (m : MoV) (A : Option Addr) (c : Nat) (l : List UInt8) (w : World) (hr : m.Rd w (fun _ => True)) (hu : m.d.u32) (hlm : l.length ≤ 9223372036854775807) (hrl : Reads w (fun _ => True) A (l.map vb)) (hT : LeastAt w) :
    Calls Tryd.prog 4 #[m.val, .slice A l.length c] w fun e w' => e = .returned (.bool true) ∧ Below w.heap.size w w' := by
  cases hlg : (decide (5000 < m.sent.length) || decide (5000 < m.came.length) || decide (1000 < m.text.length)) with
  | true => exact bputs_large m A c l w hr hlm hrl hT (.inl hlg)
  | false =>
    by_cases hl : 1000 < l.length
    · exact bputs_large m A c l w hr hlm hrl hT (.inr hl)
    · cases hok : m.d.ok with
      | false => exact bputs_no m A c l w hr hlm hrl hT hlg (by omega) hok
      | true => exact bputs_ok m A c l w hr hu hlm hrl hT hlg (by omega) hok
end Go.Proofs.YtbmbpcibihddaaaDoor
