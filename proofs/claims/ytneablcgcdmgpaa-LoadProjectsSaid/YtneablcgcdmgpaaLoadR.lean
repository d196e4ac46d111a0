/-
  The document's choice and sums; attributes, routes, options are the same as themselves. Under: they stand in memory.
-/
import Derived.Test.YtneablcgcdmgpaaLoadOpen
import Derived.Test.YtneablcgcdmgpaaLoadSums
namespace Go.Proofs.Ytneablcgcdmgpaa
open Go.ChangeShapes Go.WideShapes Go.ChangeAt Go.RowKit Go.Maps

set_option maxRecDepth 20000 in
set_option maxHeartbeats 4000000 in
theorem rtaken_first {w : World} (v : WV) (hv : v.ok) (k : Int) (hk : v.cs[15]? = some (.int .i64 k)) (h : ¬ (0 ≤ k ∧ k < v.ds.length)) :
    Calls Try.prog 25 #[.agg v.cs] w fun e w' => e = .returned (.agg (v.took k)) ∧ Below w.heap.size w w' := by
  have HT := Lib.hid fun (_ : Unit) => (show v.took k = v.cs.extract 3 14 from if_neg h)
  generalize v.took k = r at *
  obtain ⟨cs, m, f, D', dc, ds⟩ := v
  have hsz : cs.size = 16 := hv.size
  have hdt := hv.dets
  simp only at *
  obtain ⟨c0, c1, c2, c3, c4, c5, c6, c7, c8, c9, c10, c11, c12, c13, c14, c15, rfl⟩ := cells16 hsz
  simp at hk hdt
  subst hk hdt
  have hlen := hv.len
  simp only at hlen
  have hone := hv.one
  simp only at hone
  clear hv hsz
  have hb := below_a2 w (.cells #[c0, c1, c2, c3, c4, c5, c6, c7, c8, c9, c10, c11, c12, c13, .slice D' ds.length dc, .int .i64 k] 54) (.cells #[c3, c4, c5, c6, c7, c8, c9, c10, c11, c12, c13] 51)
  have HB := Lib.hid fun (_ : Unit) => (show Blk ((w.alloc (.cells #[c0, c1, c2, c3, c4, c5, c6, c7, c8, c9, c10, c11, c12, c13, .slice D' ds.length dc, .int .i64 k] 54)).alloc (.cells #[c3, c4, c5, c6, c7, c8, c9, c10, c11, c12, c13] 51)) (w.heap.size + 1) 51 #[c3, c4, c5, c6, c7, c8, c9, c10, c11, c12, c13] from by
    have := Blk.new (w.alloc (.cells #[c0, c1, c2, c3, c4, c5, c6, c7, c8, c9, c10, c11, c12, c13, .slice D' ds.length dc, .int .i64 k] 54)) 51 #[c3, c4, c5, c6, c7, c8, c9, c10, c11, c12, c13]
    rwa [World.size_alloc] at this)
  have HO := Lib.hid (show (#[c3, c4, c5, c6, c7, c8, c9, c10, c11, c12, c13] : Array Value).all (·.oneCell') = true by
    rw [Array.all_eq_true'] at hone ⊢
    intro u hu
    exact hone u (mem_mid hu))
  clear hone
  by_cases h0 : 0 ≤ k
  · have h1 : ¬ k < ds.length := fun h2 => h ⟨h0, h2⟩
    go_enter Try.func25, Try.ntmps25
    go_wp2_with (refine wpList_store_new (by rfl) 51 (.tmp 2) (.tmp 21) rfl (w.alloc (.cells #[c0, c1, c2, c3, c4, c5, c6, c7, c8, c9, c10, c11, c12, c13, .slice D' ds.length dc, .int .i64 k] 54)) _ #[c3, c4, c5, c6, c7, c8, c9, c10, c11, c12, c13] (by rfl) (by rw [World.size_alloc]; rfl) (by rfl) (by kernel_rfl) (by rfl) HO.out ?_)
    refine bodyPost_ret (results_cell1 rfl _ _ (w.heap.size + 1) 51 #[c3, c4, c5, c6, c7, c8, c9, c10, c11, c12, c13] (0, 0) _ (by simp) (HB.out ()) Try.underlying51 rfl (by kernel_rfl)) rfl ?_
    exact ⟨by rw [HT.out ()] <;> rfl, hb⟩
  · go_enter Try.func25, Try.ntmps25
    go_wp2_with (refine wpList_store_new (by rfl) 51 (.tmp 2) (.tmp 21) rfl (w.alloc (.cells #[c0, c1, c2, c3, c4, c5, c6, c7, c8, c9, c10, c11, c12, c13, .slice D' ds.length dc, .int .i64 k] 54)) _ #[c3, c4, c5, c6, c7, c8, c9, c10, c11, c12, c13] (by rfl) (by rw [World.size_alloc]; rfl) (by rfl) (by kernel_rfl) (by rfl) HO.out ?_)
    refine bodyPost_ret (results_cell1 rfl _ _ (w.heap.size + 1) 51 #[c3, c4, c5, c6, c7, c8, c9, c10, c11, c12, c13] (0, 0) _ (by simp) (HB.out ()) Try.underlying51 rfl (by kernel_rfl)) rfl ?_
    exact ⟨by rw [HT.out ()] <;> rfl, hb⟩
set_option maxRecDepth 20000 in
set_option maxHeartbeats 4000000 in
theorem rtaken_det {w : World} (v : WV) (hv : v.ok) (hr : Reads w (fun _ => True) v.D (optCells v.ds)) (k : Nat) (hk : v.cs[15]? = some (.int .i64 k)) (h : k < v.ds.length) :
    Calls Try.prog 25 #[.agg v.cs] w fun e w' => e = .returned (.agg (v.took k)) ∧ Below w.heap.size w w' := by
  obtain ⟨b, off, hD, _, hbw, hrg⟩ := hr.rangeAt (by omega) (optsLen hv.all) h
  have hod := hv.all _ (List.getElem_mem h)
  have HT := Lib.hid fun (_ : Unit) => (show v.took k = v.ds[k].cs by
    unfold WV.took
    rw [if_pos ⟨by omega, by omega⟩]
    simp [List.getD, h])
  generalize v.took k = r at *
  have hsz := hod.size
  have hone := hod.one
  have hdl := hv.len
  generalize v.ds[k] = od at *
  obtain ⟨d0, d1, d2, d3, d4, d5, d6, d7, d8, d9, d10, hoc⟩ := cells11 hsz
  rw [hoc] at hrg hone HT
  obtain ⟨cs, m, f, D', dc, ds⟩ := v
  have hsz : cs.size = 16 := hv.size
  have hdt := hv.dets
  simp only at *
  obtain ⟨c0, c1, c2, c3, c4, c5, c6, c7, c8, c9, c10, c11, c12, c13, c14, c15, rfl⟩ := cells16 hsz
  simp at hk hdt
  subst hk hdt hD
  clear hv hsz hr hod hoc
  have hrg2 : (w.alloc (.cells #[c0, c1, c2, c3, c4, c5, c6, c7, c8, c9, c10, c11, c12, c13, .slice (some ⟨b, off, none⟩) ds.length dc, .int .i64 k] 54)).rangeAt b (off + k * 11) [d0, d1, d2, d3, d4, d5, d6, d7, d8, d9, d10] := fun j u hj => ((below_a1 w _).cell (p := ⟨b, off + k * 11 + j, none⟩) hbw).trans (hrg j u hj)
  have hrg3 : ((w.alloc (.cells #[c0, c1, c2, c3, c4, c5, c6, c7, c8, c9, c10, c11, c12, c13, .slice (some ⟨b, off, none⟩) ds.length dc, .int .i64 k] 54)).alloc (.cells #[.int .i64 0, .int .u32 0, .int .i64 0, .int .i64 0, .int .i64 0, .slice none 0 0, .int .u32 0, .int .i64 0, .int .i64 0, .slice none 0 0, .int .i64 0] 51)).rangeAt b (off + k * 11) [d0, d1, d2, d3, d4, d5, d6, d7, d8, d9, d10] := fun j u hj => ((below_a1 (w.alloc (.cells #[c0, c1, c2, c3, c4, c5, c6, c7, c8, c9, c10, c11, c12, c13, .slice (some ⟨b, off, none⟩) ds.length dc, .int .i64 k] 54)) (.cells #[.int .i64 0, .int .u32 0, .int .i64 0, .int .i64 0, .int .i64 0, .slice none 0 0, .int .u32 0, .int .i64 0, .int .i64 0, .slice none 0 0, .int .i64 0] 51)).cell (p := ⟨b, off + k * 11 + j, none⟩) (by rw [World.size_alloc]; exact Nat.lt_succ_of_lt hbw)).trans (hrg2 j u hj)
  have HRG := Lib.hid hrg3
  clear hrg hrg2 hrg3
  have hk1 : (k : Int) < ds.length := by omega
  have hb := below_a2 w (.cells #[c0, c1, c2, c3, c4, c5, c6, c7, c8, c9, c10, c11, c12, c13, .slice (some ⟨b, off, none⟩) ds.length dc, .int .i64 k] 54) (.cells #[d0, d1, d2, d3, d4, d5, d6, d7, d8, d9, d10] 51)
  have HB := Lib.hid fun (_ : Unit) => (show Blk ((w.alloc (.cells #[c0, c1, c2, c3, c4, c5, c6, c7, c8, c9, c10, c11, c12, c13, .slice (some ⟨b, off, none⟩) ds.length dc, .int .i64 k] 54)).alloc (.cells #[d0, d1, d2, d3, d4, d5, d6, d7, d8, d9, d10] 51)) (w.heap.size + 1) 51 #[d0, d1, d2, d3, d4, d5, d6, d7, d8, d9, d10] from by
    have := Blk.new (w.alloc (.cells #[c0, c1, c2, c3, c4, c5, c6, c7, c8, c9, c10, c11, c12, c13, .slice (some ⟨b, off, none⟩) ds.length dc, .int .i64 k] 54)) 51 #[d0, d1, d2, d3, d4, d5, d6, d7, d8, d9, d10]
    rwa [World.size_alloc] at this)
  have HO := Lib.hid hone
  clear hone
  go_enter Try.func25, Try.ntmps25
  go_wp2_with (first | (refine wpList_load_mid rfl 51 (.tmp 18) rfl b (off + k * 11) rfl _ _ HRG.out Try.underlying51 rfl (by kernel_rfl) ?_) | (refine wpList_store_new (by rfl) 51 (.tmp 2) (.tmp 19) rfl (w.alloc (.cells #[c0, c1, c2, c3, c4, c5, c6, c7, c8, c9, c10, c11, c12, c13, .slice (some ⟨b, off, none⟩) ds.length dc, .int .i64 k] 54)) _ #[d0, d1, d2, d3, d4, d5, d6, d7, d8, d9, d10] (by rfl) (by rw [World.size_alloc]; rfl) (by rfl) (by kernel_rfl) (by rfl) HO.out ?_))
  refine bodyPost_ret (results_cell1 rfl _ _ (w.heap.size + 1) 51 #[d0, d1, d2, d3, d4, d5, d6, d7, d8, d9, d10] (0, 0) _ (by simp [Act.put]) (HB.out ()) Try.underlying51 rfl (by kernel_rfl)) rfl ?_
  exact ⟨by rw [HT.out ()] <;> rfl, hb⟩
theorem rtaken_any {w : World} (v : WV) (hv : v.ok) (hr : Reads w (fun _ => True) v.D (optCells v.ds)) (k : Int) (hk : v.cs[15]? = some (.int .i64 k)) :
    Calls Try.prog 25 #[.agg v.cs] w fun e w' => e = .returned (.agg (v.took k)) ∧ Below w.heap.size w w' := by
  by_cases h : 0 ≤ k ∧ k < v.ds.length
  · obtain ⟨j, rfl⟩ : ∃ j : Nat, k = j := ⟨k.toNat, by omega⟩
    exact rtaken_det v hv hr j hk (by omega)
  · exact rtaken_first v hv k hk h

theorem IntsIn.below {w w' : World} {A : Option Addr} {l : List Int} (h : IntsIn w A l) (hb : Below w.heap.size w w') : IntsIn w' A l := ⟨h.len, h.rd.below hb (fun _ h _ => h)⟩
set_option maxRecDepth 10000 in
theorem sameints_any {w : World} {A : Option Addr} {c : Nat} {l : List Int} (h : IntsIn w A l) :
    Calls Try.prog 46 #[.slice A l.length c, .slice A l.length c] w fun e w' => e = .returned (.bool true) ∧ Below w.heap.size w w' := by
  have H1 := Lib.hid h
  have hlen := h.len
  clear h
  go_enter Try.func46, Try.ntmps46
  go_wp2_with fail
  go_loopw [5] (fun i wr => ∃ k : Nat, k ≤ l.length ∧ i = .int .i64 k ∧ Below w.heap.size w wr) (fun i _ => l.length - (intOf i).toNat)
  case atStart => exact ⟨0, Nat.zero_le _, rfl, Below.refl _ _⟩
  case round =>
    obtain ⟨k, hk, rfl, hb⟩ := hrel
    by_cases hkl : k < l.length
    · obtain ⟨b1, o1, rfl, p0⟩ := int_at H1.out hb hkl
      generalize l[k] = p at *
      go_wp2_with fail
      go_quiet (fail)
      go_wp2_with fail
      go_roundw
      case rel => exact ⟨k + 1, by omega, by go_num, below_drewN' hb _⟩
      case measure => simp [intOf]; omega
    · obtain rfl : k = l.length := by omega
      go_wp2_with fail
      go_ret
      exact ⟨rfl, hb⟩
/-- a segment: whether it is a set; its numbers -/
structure SV where
  b : Bool
  A : Option Addr
  l : List Int
  c : Nat
def SV.cells (s : SV) : List Value := [.bool s.b, .slice s.A s.l.length s.c]
/-- attributes -/
structure AV where
  og : Int
  P : Option Addr
  sg : List SV
  pc : Nat
  nx : Int
  md : Int
  pf : Int
  C : Option Addr
  cm : List Int
  cc : Nat
def AV.cs (a : AV) : Array Value := #[.int .i64 a.og, .slice a.P a.sg.length a.pc, .int .u32 a.nx, .int .i64 a.md, .int .i64 a.pf, .slice a.C a.cm.length a.cc]
structure AttrsIn (w : World) (a : AV) : Prop where
  len : a.sg.length ≤ 9223372036854775807
  rd : Reads w (fun _ => True) a.P (a.sg.flatMap SV.cells)
  each : ∀ s ∈ a.sg, IntsIn w s.A s.l
  cms : IntsIn w a.C a.cm
theorem AttrsIn.below {w w' : World} {a : AV} (h : AttrsIn w a) (hb : Below w.heap.size w w') : AttrsIn w' a := ⟨h.len, h.rd.below hb (fun _ h _ => h), fun s hs => (h.each s hs).below hb, h.cms.below hb⟩
set_option maxRecDepth 20000 in
set_option maxHeartbeats 4000000 in
theorem sameattrs_any {w : World} (a : AV) (h : AttrsIn w a) :
    Calls Try.prog 42 #[.agg a.cs, .agg a.cs] w fun e w' => e = .returned (.bool true) ∧ Below w.heap.size w w' := by
  have H1 := Lib.hid h
  have hlen := h.len
  clear h
  obtain ⟨og, P, sg, pc, nx, md, pf, C, cm, cc⟩ := a
  unfold AV.cs
  simp only at *
  go_enter Try.func42, Try.ntmps42
  go_wp2_with fail
  refine (sameints_any (H1.out.cms.below (below_a2 w _ _))).mono ?_
  rintro e w1 ⟨rfl, hb⟩
  have HB1 := Lib.hid (show Below w.heap.size w w1 from (below_a2 w _ _).trans (hb.mono (by simp; omega)))
  have HK := Lib.hid (show Blk w1 w.heap.size 47 #[.int .i64 og, .slice P sg.length pc, .int .u32 nx, .int .i64 md, .int .i64 pf, .slice C cm.length cc] ∧ Blk w1 (w.heap.size + 1) 47 #[.int .i64 og, .slice P sg.length pc, .int .u32 nx, .int .i64 md, .int .i64 pf, .slice C cm.length cc] from by
    have h1 := Blk.new w 47 #[.int .i64 og, .slice P sg.length pc, .int .u32 nx, .int .i64 md, .int .i64 pf, .slice C cm.length cc]
    have h2 := Blk.new (w.alloc (.cells #[.int .i64 og, .slice P sg.length pc, .int .u32 nx, .int .i64 md, .int .i64 pf, .slice C cm.length cc] 47)) 47 #[.int .i64 og, .slice P sg.length pc, .int .u32 nx, .int .i64 md, .int .i64 pf, .slice C cm.length cc]
    rw [World.size_alloc] at h2
    exact ⟨(h1.alloc _).below hb (by simp; omega), h2.below hb (by simp)⟩)
  clear hb
  have hq0 := HK.out.1.cell 1
  have hq1 := HK.out.2.cell 1
  simp at hq0 hq1
  go_wp2_with fail
  go_loopw [5] (fun i wr => ∃ k : Nat, k ≤ sg.length ∧ i = .int .i64 k ∧ Below w.heap.size w wr ∧ Blk wr w.heap.size 47 #[.int .i64 og, .slice P sg.length pc, .int .u32 nx, .int .i64 md, .int .i64 pf, .slice C cm.length cc] ∧ Blk wr (w.heap.size + 1) 47 #[.int .i64 og, .slice P sg.length pc, .int .u32 nx, .int .i64 md, .int .i64 pf, .slice C cm.length cc]) (fun i _ => sg.length - (intOf i).toNat)
  case atStart => exact ⟨0, Nat.zero_le _, rfl, HB1.out, HK.out.1, HK.out.2⟩
  case round =>
    obtain ⟨k, hk, rfl, hb, hB1, hB2⟩ := hrel
    have HB := Lib.hid hb
    have HK1 := Lib.hid hB1
    have HK2 := Lib.hid hB2
    have hn0 := hB1.lt
    have hn1 := hB2.lt
    have hq0 := hB1.cell 1
    have hq1 := hB2.cell 1
    simp at hq0 hq1
    clear hb hB1 hB2 HB1 HK
    by_cases hkl : k < sg.length
    · obtain ⟨b1, o1, rfl, _, hbl, hrg⟩ := H1.out.rd.rangeAt (sz := 2) (by omega) (fun _ _ => rfl) hkl
      have HIN := Lib.hid (H1.out.each _ (List.getElem_mem hkl))
      have ha0 := (HB.out.cell (p := ⟨b1, o1 + k * 2, none⟩) hbl).trans (hrg 0 _ rfl)
      have ha1 := (HB.out.cell (p := ⟨b1, o1 + k * 2 + 1, none⟩) hbl).trans (hrg 1 _ rfl)
      have hbw : b1 < wr.heap.size := Nat.lt_of_lt_of_le hbl HB.out.size
      clear hrg
      generalize sg[k] = s at *
      obtain ⟨sb, sA, sl, sc⟩ := s
      simp only at *
      have hk1 : (wr.cell? ⟨w.heap.size, 1, none⟩ = some (.slice (some ⟨b1, o1, none⟩) sg.length pc)) ∧ (wr.cell? ⟨w.heap.size + 1, 1, none⟩ = some (.slice (some ⟨b1, o1, none⟩) sg.length pc)) ∧ (wr.cell? ⟨b1, o1 + k * 2, none⟩ = some (.bool sb)) ∧ (wr.cell? ⟨b1, o1 + k * 2 + 1, none⟩ = some (.slice sA sl.length sc)) := ⟨hq0, hq1, ha0, ha1⟩
      go_wp2_with fail
      go_region_held3 (fun W => (W.cell? ⟨w.heap.size, 1, none⟩ = some (.slice (some ⟨b1, o1, none⟩) sg.length pc)) ∧ (W.cell? ⟨w.heap.size + 1, 1, none⟩ = some (.slice (some ⟨b1, o1, none⟩) sg.length pc)) ∧ (W.cell? ⟨b1, o1 + k * 2, none⟩ = some (.bool sb)) ∧ (W.cell? ⟨b1, o1 + k * 2 + 1, none⟩ = some (.slice sA sl.length sc))) (first | exact hk3 | exact hk1 | go_keep) ((go_at_call 46; refine (sameints_any (HIN.out.below (Below.trans HB.out (by repeat (first | exact (Below.refl wr.heap.size wr).mono HB.out.size | refine Below.drew ?_))))).mono ?_; rintro e w3 ⟨rfl, hb3⟩; have hbw3 : Below wr.heap.size wr w3 := Below.trans (by repeat (first | exact Below.refl _ _ | refine Below.drew ?_)) (hb3.mono (by simp)); have hk3 : (w3.cell? ⟨w.heap.size, 1, none⟩ = some (.slice (some ⟨b1, o1, none⟩) sg.length pc)) ∧ (w3.cell? ⟨w.heap.size + 1, 1, none⟩ = some (.slice (some ⟨b1, o1, none⟩) sg.length pc)) ∧ (w3.cell? ⟨b1, o1 + k * 2, none⟩ = some (.bool sb)) ∧ (w3.cell? ⟨b1, o1 + k * 2 + 1, none⟩ = some (.slice sA sl.length sc)) := ⟨(hbw3.cell (p := ⟨w.heap.size, 1, none⟩) hn0).trans hq0, (hbw3.cell (p := ⟨w.heap.size + 1, 1, none⟩) hn1).trans hq1, (hbw3.cell (p := ⟨b1, o1 + k * 2, none⟩) hbw).trans ha0, (hbw3.cell (p := ⟨b1, o1 + k * 2 + 1, none⟩) hbw).trans ha1⟩))
      have HE := Lib.hid (HB.out.trans (hbw3.mono HB.out.size))
      have HK3 := Lib.hid (HK1.out.below hbw3 hn0)
      have HK4 := Lib.hid (HK2.out.below hbw3 hn1)
      go_wp2_with fail
      go_roundw
      case rel => exact ⟨k + 1, by omega, by go_num, by repeat (first | exact HE.out | refine Below.drew ?_), by repeat (first | exact HK3.out | refine Blk.drew ?_), by repeat (first | exact HK4.out | refine Blk.drew ?_)⟩
      case measure => simp [intOf]; omega
    · obtain rfl : k = sg.length := by omega
      go_wp2_with fail
      go_ret
      exact ⟨rfl, HB.out⟩
end Go.Proofs.Ytneablcgcdmgpaa
