/-
  The loads of wants, and what each takes: the walk of 'LoadProjects'. Under: the wants read as data.
-/
import Derived.Test.YtneablcgcdmgpaaLoadU
namespace Go.Proofs.Ytneablcgcdmgpaa
open Go.ChangeShapes Go.WideShapes Go.ChangeAt Go.RowKit Go.Maps

theorem op_one (w : World) (r p q d f : Int) (a : AV) : OpAt (w.alloc (.cells #[.int .i64 r, .int .u32 p, .int .i64 q, .int .i64 d, .int .i64 a.og, .slice a.P a.sg.length a.pc, .int .u32 a.nx, .int .i64 a.md, .int .i64 a.pf, .slice a.C a.cm.length a.cc, .int .i64 f] 51)) w.heap.size r p q d a f := by
  have hB := Blk.new w 51 #[.int .i64 r, .int .u32 p, .int .i64 q, .int .i64 d, .int .i64 a.og, .slice a.P a.sg.length a.pc, .int .u32 a.nx, .int .i64 a.md, .int .i64 a.pf, .slice a.C a.cm.length a.cc, .int .i64 f]
  refine ⟨hB.lt, fun j v hj => ?_⟩
  rw [Nat.zero_add, hB.cell j, ← hj]
  simp
theorem OpAt.alloc {w : World} {b : Nat} {r p q d : Int} {a : AV} {f : Int} (h : OpAt w b r p q d a f) (o : Obj) : OpAt (w.alloc o) b r p q d a f := h.below (below_a1 _ _)
theorem OpAt.drew {w : World} {b : Nat} {r p q d : Int} {a : AV} {f : Int} (h : OpAt w b r p q d a f) : OpAt w.drew b r p q d a f := h.below (Below.refl _ _).drew
theorem op_two (w : World) (o : Obj) (r p q d f : Int) (a : AV) : OpAt ((w.alloc o).alloc (.cells #[.int .i64 r, .int .u32 p, .int .i64 q, .int .i64 d, .int .i64 a.og, .slice a.P a.sg.length a.pc, .int .u32 a.nx, .int .i64 a.md, .int .i64 a.pf, .slice a.C a.cm.length a.cc, .int .i64 f] 51)) (w.heap.size + 1) r p q d a f := by
  have h := op_one (w.alloc o) r p q d f a
  rwa [World.size_alloc] at h
set_option maxRecDepth 20000 in
set_option maxHeartbeats 8000000 in
theorem projects_walk {w : World} {A : Option Addr} {c : Nat} {ws : List WV} (hw : WantsOf w A ws) :
    Calls Try.prog 4 #[.slice A ws.length c] w fun e w' => e = .returned (.bool true) ∧ Below w.heap.size w w' := by
  have hp1 := ptr_some
  have HW := Lib.hid hw
  have hlen := hw.ins.len
  clear hw
  by_cases h60 : 60 < ws.length
  · go_enter Try.func4, Try.ntmps4
    go_wp2_with fail
    refine (lives_any _).mono ?_
    rintro e w2 ⟨rfl, hb⟩
    go_wp2_with fail
    go_ret
    exact ⟨rfl, hb⟩
  go_enter Try.func4, Try.ntmps4
  go_wp2_with fail
  go_loopw [3] (fun i wr => ∃ k : Nat, k ≤ ws.length ∧ i = .int .i64 k ∧ Below w.heap.size w wr) (fun i _ => ws.length - (intOf i).toNat)
  case atStart => exact ⟨0, Nat.zero_le _, rfl, Below.refl _ _⟩
  case round =>
    obtain ⟨k, hk, rfl, hb⟩ := hrel
    have HB := Lib.hid hb
    clear hb
    by_cases hkl : k < ws.length
    · obtain ⟨bk, off, rfl, _, hbw, hrg⟩ := HW.out.ins.rd.rangeAt (sz := 16) (by omega) (fun v hv => by simpa using (HW.out.ins.all v hv).1.size) hkl
      have hv := HW.out.ins.all _ (List.getElem_mem hkl)
      generalize ws[k] = v at *
      have hd14 := (HB.out.cell (p := ⟨bk, off + k * 16 + 14, none⟩) hbw).trans (hrg 14 _ (by have := hv.1.dets; simpa using this))
      have hvl := hv.1.len
      clear hv hrg
      obtain ⟨cs, m, f, D', dc, ds⟩ := v
      simp only at *
      by_cases h30 : 30 < ds.length
      · go_wp2_with fail
        refine (lives_any _).mono ?_
        rintro e w2 ⟨rfl, hb⟩
        go_wp2_with fail
        go_ret
        exact ⟨rfl, HB.out.trans (hb.mono HB.out.size)⟩
      · go_wp2_with fail
        go_roundw
        case rel => exact ⟨k + 1, by omega, by go_num, HB.out⟩
        case measure => simp [intOf]; omega
    · obtain rfl : k = ws.length := by omega
      go_wp2_with fail
      refine (project_any (HW.out.below HB.out).ins (by omega)).mono ?_
      rintro e w1 ⟨g, b, rfl, hL, hb1, hg, hbb⟩
      have HB1 := Lib.hid (show Below w.heap.size w w1 from HB.out.trans (hb1.mono HB.out.size))
      have HL1 := Lib.hid hL
      clear hL hb1 HB
      go_wp2_with fail
      refine (rproject_any (HW.out.below HB1.out).ins (by omega)).mono ?_
      rintro e w2 ⟨h, rfl, hr, hb2, hh⟩
      have HO := Lib.hid (And.intro (HL1.out.below hb2) (And.intro hr (show Below w.heap.size w w2 from HB1.out.trans (hb2.mono HB1.out.size))))
      clear hr hb2 HB1 HL1
      have HOK := Lib.hid (projL_ok ws)
      have hsl : (projL ws).s.length ≤ ws.length := projL_len ws
      generalize projL ws = x at *
      obtain ⟨A0, c0, hB0, hrd0⟩ := HO.out.2.1.mem
      have HRD := Lib.hid hrd0
      have hh0 := hB0.cell 0
      have hh1 := hB0.cell 1
      simp at hh0 hh1
      have hlh := hB0.lt
      clear hrd0 hB0
      have hk1 : (w2.cell? ⟨h, 0, none⟩ = some (.slice A0 x.s.length c0)) ∧ (w2.cell? ⟨h, 1, none⟩ = some (.bool x.o)) := ⟨hh0, hh1⟩
      go_wp2_with fail
      go_region_held3 (fun W => (W.cell? ⟨h, 0, none⟩ = some (.slice A0 x.s.length c0)) ∧ (W.cell? ⟨h, 1, none⟩ = some (.bool x.o))) (first | exact hk4 | exact hk3 | exact hk2 | exact hk1 | go_keep) ((first
        | (go_at_call 9; refine (lives_any _).mono ?_; rintro e w3 ⟨rfl, hb3⟩; have hbw3 : Below w2.heap.size w2 w3 := Below.trans (by repeat (first | exact Below.refl _ _ | refine Below.drew ?_)) (hb3.mono (by simp)); have hk2 : (w3.cell? ⟨h, 0, none⟩ = some (.slice A0 x.s.length c0)) ∧ (w3.cell? ⟨h, 1, none⟩ = some (.bool x.o)) := ⟨(hbw3.cell (p := ⟨h, 0, none⟩) hlh).trans hh0, (hbw3.cell (p := ⟨h, 1, none⟩) hlh).trans hh1⟩)
        | (go_at_call 15; refine (all_any (HO.out.1.below (by repeat (first | exact hbw3 | refine Below.drew ?_))) HOK.out (by omega)).mono ?_; rintro e w4 ⟨v4, rfl, hown, hb4⟩; obtain ⟨A4, c4, rfl, hrd4⟩ := own_readsN hown; have hbw4 : Below w2.heap.size w2 w4 := Below.trans (by repeat (first | exact hbw3 | refine Below.drew ?_)) (hb4.mono (by have := hbw3.size; simp; omega)); have HR4 := Lib.hid hrd4; have hk3 : (w4.cell? ⟨h, 0, none⟩ = some (.slice A0 x.s.length c0)) ∧ (w4.cell? ⟨h, 1, none⟩ = some (.bool x.o)) := ⟨(hbw4.cell (p := ⟨h, 0, none⟩) hlh).trans hh0, (hbw4.cell (p := ⟨h, 1, none⟩) hlh).trans hh1⟩)
        | (go_at_call 14; refine (same_any (HR4.out.below (B := w4.heap.size) (by repeat (first | exact Below.refl _ _ | refine Below.drew ?_)) (fun _ h _ => h)) (HRD.out.below (B := w2.heap.size) (by repeat (first | exact hbw4 | refine Below.drew ?_)) (fun _ h _ => h)) (by omega)).mono ?_; rintro e w5 ⟨rfl, hb5⟩; have hbw5 : Below w2.heap.size w2 w5 := Below.trans (by repeat (first | exact hbw4 | refine Below.drew ?_)) (hb5.mono (by have := hbw4.size; simp; omega)); have hk4 : (w5.cell? ⟨h, 0, none⟩ = some (.slice A0 x.s.length c0)) ∧ (w5.cell? ⟨h, 1, none⟩ = some (.bool x.o)) := ⟨(hbw5.cell (p := ⟨h, 0, none⟩) hlh).trans hh0, (hbw5.cell (p := ⟨h, 1, none⟩) hlh).trans hh1⟩)
        | (go_at_call 16; refine (over_any (HO.out.1.below (by repeat (first | exact hbw5 | refine Below.drew ?_)))).mono ?_; rintro e w6 ⟨rfl, rfl⟩)))
      have HB5 := Lib.hid (show Below w.heap.size w w5 from HO.out.2.2.trans (hbw5.mono HO.out.2.2.size))
      clear HO HOK HRD HR4 hb3 hb4 hb5 hbw3 hbw4 hbw5 hk1 hk2 hk3 hk4 hh0 hh1 hlh hown hrd4
      go_wp2_with fail
      go_loopw [6] (fun i wr => ∃ k : Nat, k ≤ ws.length ∧ i = .int .i64 k ∧ Below w.heap.size w wr) (fun i _ => ws.length - (intOf i).toNat)
      case atStart => exact ⟨0, Nat.zero_le _, rfl, by repeat (first | exact HB5.out | refine Below.drew ?_)⟩
      case round =>
        obtain ⟨k, hk, rfl, hb⟩ := hrel
        have HB := Lib.hid hb
        clear hb HB5
        by_cases hkl : k < ws.length
        · obtain ⟨bk, off, rfl, _, hbw, hrg⟩ := HW.out.ins.rd.rangeAt (sz := 16) (by omega) (fun v hv => by simpa using (HW.out.ins.all v hv).1.size) hkl
          have HRG := Lib.hid fun W (hb : Below w.heap.size w W) => (fun j v hj => (hb.cell (p := ⟨bk, off + k * 16 + j, none⟩) hbw).trans (hrg j v hj) : W.rangeAt bk (off + k * 16) ws[k].cs.toList)
          have hv := HW.out.ins.all _ (List.getElem_mem hkl)
          have ho := HW.out.opt _ (List.getElem_mem hkl)
          clear hrg
          generalize ws[k] = v at *
          have hsz := hv.1.size
          have HTK := Lib.hid fun W (hb : Below w.heap.size w W) => taken_any (w := W) v hv.1 (hv.2.2.below hb (fun _ h _ => h)) v.at_ hv.2.1
          have HTR := Lib.hid fun W (hb : Below w.heap.size w W) => rtaken_any (w := W) v hv.1 (hv.2.2.below hb (fun _ h _ => h)) v.at_ hv.2.1
          obtain ⟨r, p, q, d, a, f, htk, hat⟩ := ho
          rw [htk] at HTK HTR
          have HSM := Lib.hid fun W b1 b2 (hb : Below w.heap.size w W) h1 h2 => sameopts_any (w := W) (b1 := b1) (b2 := b2) (r := r) (p := p) (q := q) (d := d) (a := a) (f := f) h1 h2 (hat.below hb)
          have HO1 := Lib.hid fun W => op_one W r p q d f a
          have HO2 := Lib.hid fun W o => op_two W o r p q d f a
          clear htk hat hv
          obtain ⟨og, P, sg, pc, nx, md, pf, C, cm, cc⟩ := a
          obtain ⟨cs, nn, ff, D', dc, dd⟩ := v
          simp only at *
          obtain ⟨c0, c1, c2, c3, c4, c5, c6, c7, c8, c9, c10, c11, c12, c13, c14, c15, rfl⟩ := cells16 hsz
          clear hsz
          have HK := Lib.hid fun W (hb : Below w.heap.size w W) => (show (W.cell? ⟨bk, off + k * 16, none⟩ = some c0) ∧ (W.cell? ⟨bk, off + k * 16 + 1, none⟩ = some c1) ∧ (W.cell? ⟨bk, off + k * 16 + 2, none⟩ = some c2) ∧ (W.cell? ⟨bk, off + k * 16 + 3, none⟩ = some c3) ∧ (W.cell? ⟨bk, off + k * 16 + 4, none⟩ = some c4) ∧ (W.cell? ⟨bk, off + k * 16 + 5, none⟩ = some c5) ∧ (W.cell? ⟨bk, off + k * 16 + 6, none⟩ = some c6) ∧ (W.cell? ⟨bk, off + k * 16 + 7, none⟩ = some c7) ∧ (W.cell? ⟨bk, off + k * 16 + 8, none⟩ = some c8) ∧ (W.cell? ⟨bk, off + k * 16 + 9, none⟩ = some c9) ∧ (W.cell? ⟨bk, off + k * 16 + 10, none⟩ = some c10) ∧ (W.cell? ⟨bk, off + k * 16 + 11, none⟩ = some c11) ∧ (W.cell? ⟨bk, off + k * 16 + 12, none⟩ = some c12) ∧ (W.cell? ⟨bk, off + k * 16 + 13, none⟩ = some c13) ∧ (W.cell? ⟨bk, off + k * 16 + 14, none⟩ = some c14) ∧ (W.cell? ⟨bk, off + k * 16 + 15, none⟩ = some c15) from by
            have h := HRG.out W hb
            exact ⟨h 0 _ rfl, h 1 _ rfl, h 2 _ rfl, h 3 _ rfl, h 4 _ rfl, h 5 _ rfl, h 6 _ rfl, h 7 _ rfl, h 8 _ rfl, h 9 _ rfl, h 10 _ rfl, h 11 _ rfl, h 12 _ rfl, h 13 _ rfl, h 14 _ rfl, h 15 _ rfl⟩)
          have hk1 := HK.out wr HB.out
          clear HRG
          go_wp2_with fail
          go_region_held3 (fun W => (W.cell? ⟨bk, off + k * 16, none⟩ = some c0) ∧ (W.cell? ⟨bk, off + k * 16 + 1, none⟩ = some c1) ∧ (W.cell? ⟨bk, off + k * 16 + 2, none⟩ = some c2) ∧ (W.cell? ⟨bk, off + k * 16 + 3, none⟩ = some c3) ∧ (W.cell? ⟨bk, off + k * 16 + 4, none⟩ = some c4) ∧ (W.cell? ⟨bk, off + k * 16 + 5, none⟩ = some c5) ∧ (W.cell? ⟨bk, off + k * 16 + 6, none⟩ = some c6) ∧ (W.cell? ⟨bk, off + k * 16 + 7, none⟩ = some c7) ∧ (W.cell? ⟨bk, off + k * 16 + 8, none⟩ = some c8) ∧ (W.cell? ⟨bk, off + k * 16 + 9, none⟩ = some c9) ∧ (W.cell? ⟨bk, off + k * 16 + 10, none⟩ = some c10) ∧ (W.cell? ⟨bk, off + k * 16 + 11, none⟩ = some c11) ∧ (W.cell? ⟨bk, off + k * 16 + 12, none⟩ = some c12) ∧ (W.cell? ⟨bk, off + k * 16 + 13, none⟩ = some c13) ∧ (W.cell? ⟨bk, off + k * 16 + 14, none⟩ = some c14) ∧ (W.cell? ⟨bk, off + k * 16 + 15, none⟩ = some c15)) (first | exact hk5 | exact hk4 | exact hk3 | exact hk1 | go_keep) ((first
            | (go_at_call 24; refine (HTK.out _ (by repeat (first | exact HB.out | refine Below.drew ?_))).mono ?_; rintro e w3 ⟨rfl, hb3⟩; have hbw3 : Below w.heap.size w w3 := Below.trans (by repeat (first | exact HB.out | refine Below.drew ?_)) (hb3.mono (by have := HB.out.size; simp; omega)); have hk3 := HK.out w3 hbw3)
            | (go_at_call 25; refine (HTR.out _ (by repeat (first | exact hbw3 | refine Below.drew ?_ | refine Below.alloc ?_ (by have := hbw3.size; simp <;> omega) _))).mono ?_; rintro e w4 ⟨rfl, hb4⟩; have hbw4 : Below w.heap.size w w4 := Below.trans (by repeat (first | exact hbw3 | refine Below.drew ?_ | refine Below.alloc ?_ (by have := hbw3.size; simp <;> omega) _)) (hb4.mono (by have := hbw3.size; simp <;> omega)); have hk4 := HK.out w4 hbw4)
            | (go_at_call 23; refine (HSM.out _ _ _ (by repeat (first | exact hbw4 | refine Below.drew ?_ | refine Below.alloc ?_ (by have := hbw4.size; simp <;> omega) _)) (by first | exact HO1.out _ | exact HO2.out _ _ | exact (HO1.out _).alloc _ | exact ((HO1.out w3).below hb4).alloc _) (by first | exact HO1.out _ | exact HO2.out _ _ | exact (HO1.out _).alloc _ | exact ((HO1.out w3).below hb4).alloc _)).mono ?_; rintro e w5 ⟨rfl, hb5⟩; have hbw5 : Below w.heap.size w w5 := Below.trans (by repeat (first | exact hbw4 | refine Below.drew ?_ | refine Below.alloc ?_ (by have := hbw4.size; simp <;> omega) _)) (hb5.mono (by have := hbw4.size; simp <;> omega)); have hk5 := HK.out w5 hbw5)))
          all_goals (
            go_wp2_with fail
            go_roundw
            case rel => exact ⟨k + 1, by omega, by go_num, by repeat (first | exact hbw5 | refine Below.drew ?_)⟩
            case measure => simp [intOf]; omega)
        · obtain rfl : k = ws.length := by omega
          go_wp2_with fail
          go_ret
          exact ⟨rfl, HB.out⟩
end Go.Proofs.Ytneablcgcdmgpaa
