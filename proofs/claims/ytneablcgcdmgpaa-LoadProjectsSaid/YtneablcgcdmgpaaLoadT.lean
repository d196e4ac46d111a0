/-
  The document's rows of one route, of one option, are the same as themselves. Under: they stand in memory.
-/
import Derived.Test.YtneablcgcdmgpaaLoadOpenP
namespace Go.Proofs.Ytneablcgcdmgpaa
open Go.ChangeShapes Go.WideShapes Go.ChangeAt Go.RowKit Go.Maps

/-- ten cells from the start of a block: a route -/
structure RtAt (w : World) (b : Nat) (r p q d : Int) (a : AV) : Prop where
  lt : b < w.heap.size
  rg : w.rangeAt b 0 [.int .i64 r, .int .u32 p, .int .i64 q, .int .i64 d, .int .i64 a.og, .slice a.P a.sg.length a.pc, .int .u32 a.nx, .int .i64 a.md, .int .i64 a.pf, .slice a.C a.cm.length a.cc]
theorem RtAt.below {w w' : World} {b : Nat} {r p q d : Int} {a : AV} (h : RtAt w b r p q d a) (hb : Below w.heap.size w w') : RtAt w' b r p q d a :=
  ⟨Nat.lt_of_lt_of_le h.lt hb.size, fun j v hj => (hb.cell (p := ⟨b, 0 + j, none⟩) h.lt).trans (h.rg j v hj)⟩
theorem RtAt.drew {w : World} {b : Nat} {r p q d : Int} {a : AV} (h : RtAt w b r p q d a) : RtAt w.drew b r p q d a := h.below (Below.refl _ _).drew
theorem rt_two (w : World) (r p q d : Int) (a : AV) :
    RtAt ((w.alloc (.cells #[.int .i64 r, .int .u32 p, .int .i64 q, .int .i64 d, .int .i64 a.og, .slice a.P a.sg.length a.pc, .int .u32 a.nx, .int .i64 a.md, .int .i64 a.pf, .slice a.C a.cm.length a.cc] 49)).alloc (.cells #[.int .i64 r, .int .u32 p, .int .i64 q, .int .i64 d, .int .i64 a.og, .slice a.P a.sg.length a.pc, .int .u32 a.nx, .int .i64 a.md, .int .i64 a.pf, .slice a.C a.cm.length a.cc] 49)) w.heap.size r p q d a ∧
    RtAt ((w.alloc (.cells #[.int .i64 r, .int .u32 p, .int .i64 q, .int .i64 d, .int .i64 a.og, .slice a.P a.sg.length a.pc, .int .u32 a.nx, .int .i64 a.md, .int .i64 a.pf, .slice a.C a.cm.length a.cc] 49)).alloc (.cells #[.int .i64 r, .int .u32 p, .int .i64 q, .int .i64 d, .int .i64 a.og, .slice a.P a.sg.length a.pc, .int .u32 a.nx, .int .i64 a.md, .int .i64 a.pf, .slice a.C a.cm.length a.cc] 49)) (w.heap.size + 1) r p q d a := by
  generalize ho : Obj.cells _ _ = o
  have h1 : RtAt (w.alloc o) w.heap.size r p q d a := by
    subst ho
    have hB := Blk.new w 49 #[.int .i64 r, .int .u32 p, .int .i64 q, .int .i64 d, .int .i64 a.og, .slice a.P a.sg.length a.pc, .int .u32 a.nx, .int .i64 a.md, .int .i64 a.pf, .slice a.C a.cm.length a.cc]
    refine ⟨hB.lt, fun j v hj => ?_⟩
    rw [Nat.zero_add, hB.cell j, ← hj]
    simp
  have h2 : RtAt ((w.alloc o).alloc o) (w.alloc o).heap.size r p q d a := by
    subst ho
    have hB := Blk.new (w.alloc (.cells #[.int .i64 r, .int .u32 p, .int .i64 q, .int .i64 d, .int .i64 a.og, .slice a.P a.sg.length a.pc, .int .u32 a.nx, .int .i64 a.md, .int .i64 a.pf, .slice a.C a.cm.length a.cc] 49)) 49 #[.int .i64 r, .int .u32 p, .int .i64 q, .int .i64 d, .int .i64 a.og, .slice a.P a.sg.length a.pc, .int .u32 a.nx, .int .i64 a.md, .int .i64 a.pf, .slice a.C a.cm.length a.cc]
    refine ⟨hB.lt, fun j v hj => ?_⟩
    rw [Nat.zero_add, hB.cell j, ← hj]
    simp
  rw [World.size_alloc] at h2
  exact ⟨h1.below (below_a1 _ _), h2⟩
def tens (r p q d og nx md pf : Int) (P C : Option Addr) (n1 n2 pc cc : Nat) : List Value := [.int .i64 r, .int .u32 p, .int .i64 q, .int .i64 d, .int .i64 og, .slice P n1 pc, .int .u32 nx, .int .i64 md, .int .i64 pf, .slice C n2 cc]
def Tens (w : World) (b : Nat) (r p q d og nx md pf : Int) (P C : Option Addr) (n1 n2 pc cc : Nat) : Prop :=
  (w.cell? ⟨b, 0, none⟩ = some (.int .i64 r)) ∧ (w.cell? ⟨b, 1, none⟩ = some (.int .u32 p)) ∧ (w.cell? ⟨b, 2, none⟩ = some (.int .i64 q)) ∧ (w.cell? ⟨b, 3, none⟩ = some (.int .i64 d)) ∧ (w.cell? ⟨b, 4, none⟩ = some (.int .i64 og)) ∧ (w.cell? ⟨b, 5, none⟩ = some (.slice P n1 pc)) ∧ (w.cell? ⟨b, 6, none⟩ = some (.int .u32 nx)) ∧ (w.cell? ⟨b, 7, none⟩ = some (.int .i64 md)) ∧ (w.cell? ⟨b, 8, none⟩ = some (.int .i64 pf)) ∧ (w.cell? ⟨b, 9, none⟩ = some (.slice C n2 cc))
theorem RtAt.tens {w : World} {b : Nat} {r p q d : Int} {a : AV} (h : RtAt w b r p q d a) : Tens w b r p q d a.og a.nx a.md a.pf a.P a.C a.sg.length a.cm.length a.pc a.cc :=
  ⟨h.rg 0 _ rfl, h.rg 1 _ rfl, h.rg 2 _ rfl, h.rg 3 _ rfl, h.rg 4 _ rfl, h.rg 5 _ rfl, h.rg 6 _ rfl, h.rg 7 _ rfl, h.rg 8 _ rfl, h.rg 9 _ rfl⟩
set_option maxRecDepth 20000 in
set_option maxHeartbeats 4000000 in
theorem sameroutes_any {w : World} {b1 b2 : Nat} {r p q d : Int} {a : AV} (h1 : RtAt w b1 r p q d a) (h2 : RtAt w b2 r p q d a) (ha : AttrsIn w a) :
    Calls Try.prog 36 #[.slice (some ⟨b1, 0, none⟩) 1 1, .slice (some ⟨b2, 0, none⟩) 1 1] w fun e w' => e = .returned (.bool true) ∧ Below w.heap.size w w' := by
  have H1 := Lib.hid h1
  have H2 := Lib.hid h2
  have HA := Lib.hid ha
  clear h1 h2 ha
  go_enter Try.func36, Try.ntmps36
  go_wp2_with fail
  go_loopw [5] (fun i wr => ∃ k : Nat, k ≤ 1 ∧ i = .int .i64 k ∧ Below w.heap.size w wr) (fun i _ => 1 - (intOf i).toNat)
  case atStart => exact ⟨0, by omega, rfl, Below.refl _ _⟩
  case round =>
    obtain ⟨k, hk, rfl, hb⟩ := hrel
    have HB := Lib.hid hb
    clear hb
    by_cases hkl : k = 0
    · subst hkl
      have HW := Lib.hid fun W (hb : Below w.heap.size w W) => sameattrs_any (w := W) a (HA.out.below hb)
      have T1 := Lib.hid fun W (hb : Below w.heap.size w W) => (H1.out.below hb).tens
      have T2 := Lib.hid fun W (hb : Below w.heap.size w W) => (H2.out.below hb).tens
      unfold AV.cs at HW
      obtain ⟨og, P, sg, pc, nx, md, pf, C, cm, cc⟩ := a
      simp only at *
      have HK := Lib.hid fun W (hb : Below w.heap.size w W) => (show (W.cell? ⟨b1, 0, none⟩ = some (.int .i64 r)) ∧ (W.cell? ⟨b1, 1, none⟩ = some (.int .u32 p)) ∧ (W.cell? ⟨b1, 2, none⟩ = some (.int .i64 q)) ∧ (W.cell? ⟨b1, 3, none⟩ = some (.int .i64 d)) ∧ (W.cell? ⟨b1, 4, none⟩ = some (.int .i64 og)) ∧ (W.cell? ⟨b1, 5, none⟩ = some (.slice P sg.length pc)) ∧ (W.cell? ⟨b1, 6, none⟩ = some (.int .u32 nx)) ∧ (W.cell? ⟨b1, 7, none⟩ = some (.int .i64 md)) ∧ (W.cell? ⟨b1, 8, none⟩ = some (.int .i64 pf)) ∧ (W.cell? ⟨b1, 9, none⟩ = some (.slice C cm.length cc)) ∧ (W.cell? ⟨b2, 0, none⟩ = some (.int .i64 r)) ∧ (W.cell? ⟨b2, 1, none⟩ = some (.int .u32 p)) ∧ (W.cell? ⟨b2, 2, none⟩ = some (.int .i64 q)) ∧ (W.cell? ⟨b2, 3, none⟩ = some (.int .i64 d)) ∧ (W.cell? ⟨b2, 4, none⟩ = some (.int .i64 og)) ∧ (W.cell? ⟨b2, 5, none⟩ = some (.slice P sg.length pc)) ∧ (W.cell? ⟨b2, 6, none⟩ = some (.int .u32 nx)) ∧ (W.cell? ⟨b2, 7, none⟩ = some (.int .i64 md)) ∧ (W.cell? ⟨b2, 8, none⟩ = some (.int .i64 pf)) ∧ (W.cell? ⟨b2, 9, none⟩ = some (.slice C cm.length cc)) from by
        have h1 := T1.out W hb
        have h2 := T2.out W hb
        unfold Tens at h1 h2
        obtain ⟨a0, a1, a2, a3, a4, a5, a6, a7, a8, a9⟩ := h1
        obtain ⟨c0, c1, c2, c3, c4, c5, c6, c7, c8, c9⟩ := h2
        exact ⟨a0, a1, a2, a3, a4, a5, a6, a7, a8, a9, c0, c1, c2, c3, c4, c5, c6, c7, c8, c9⟩)
      have hk1 := HK.out wr HB.out
      clear T1 T2 HA H1 H2
      go_wp2_with fail
      go_region_held3 (fun W => (W.cell? ⟨b1, 0, none⟩ = some (.int .i64 r)) ∧ (W.cell? ⟨b1, 1, none⟩ = some (.int .u32 p)) ∧ (W.cell? ⟨b1, 2, none⟩ = some (.int .i64 q)) ∧ (W.cell? ⟨b1, 3, none⟩ = some (.int .i64 d)) ∧ (W.cell? ⟨b1, 4, none⟩ = some (.int .i64 og)) ∧ (W.cell? ⟨b1, 5, none⟩ = some (.slice P sg.length pc)) ∧ (W.cell? ⟨b1, 6, none⟩ = some (.int .u32 nx)) ∧ (W.cell? ⟨b1, 7, none⟩ = some (.int .i64 md)) ∧ (W.cell? ⟨b1, 8, none⟩ = some (.int .i64 pf)) ∧ (W.cell? ⟨b1, 9, none⟩ = some (.slice C cm.length cc)) ∧ (W.cell? ⟨b2, 0, none⟩ = some (.int .i64 r)) ∧ (W.cell? ⟨b2, 1, none⟩ = some (.int .u32 p)) ∧ (W.cell? ⟨b2, 2, none⟩ = some (.int .i64 q)) ∧ (W.cell? ⟨b2, 3, none⟩ = some (.int .i64 d)) ∧ (W.cell? ⟨b2, 4, none⟩ = some (.int .i64 og)) ∧ (W.cell? ⟨b2, 5, none⟩ = some (.slice P sg.length pc)) ∧ (W.cell? ⟨b2, 6, none⟩ = some (.int .u32 nx)) ∧ (W.cell? ⟨b2, 7, none⟩ = some (.int .i64 md)) ∧ (W.cell? ⟨b2, 8, none⟩ = some (.int .i64 pf)) ∧ (W.cell? ⟨b2, 9, none⟩ = some (.slice C cm.length cc))) (first | exact hk3 | exact hk1 | go_keep) ((go_at_call 42; refine (HW.out _ (by repeat (first | exact HB.out | refine Below.drew ?_))).mono ?_; rintro e w3 ⟨rfl, hb3⟩; have hbw3 : Below w.heap.size w w3 := Below.trans (by repeat (first | exact HB.out | refine Below.drew ?_)) (hb3.mono (by have := HB.out.size; simp; omega)); have hk3 := HK.out w3 hbw3))
      have HE := Lib.hid hbw3
      go_wp2_with fail
      go_roundw
      case rel => exact ⟨1, by omega, by go_num, by repeat (first | exact HE.out | refine Below.drew ?_)⟩
      case measure => simp [intOf]
    · obtain rfl : k = 1 := by omega
      go_wp2_with fail
      go_ret
      exact ⟨rfl, HB.out⟩
/-- eleven cells from the start of a block: an option -/
structure OpAt (w : World) (b : Nat) (r p q d : Int) (a : AV) (f : Int) : Prop where
  lt : b < w.heap.size
  rg : w.rangeAt b 0 [.int .i64 r, .int .u32 p, .int .i64 q, .int .i64 d, .int .i64 a.og, .slice a.P a.sg.length a.pc, .int .u32 a.nx, .int .i64 a.md, .int .i64 a.pf, .slice a.C a.cm.length a.cc, .int .i64 f]
theorem OpAt.below {w w' : World} {b : Nat} {r p q d : Int} {a : AV} {f : Int} (h : OpAt w b r p q d a f) (hb : Below w.heap.size w w') : OpAt w' b r p q d a f :=
  ⟨Nat.lt_of_lt_of_le h.lt hb.size, fun j v hj => (hb.cell (p := ⟨b, 0 + j, none⟩) h.lt).trans (h.rg j v hj)⟩
set_option maxRecDepth 20000 in
set_option maxHeartbeats 4000000 in
theorem sameopts_any {w : World} {b1 b2 : Nat} {r p q d : Int} {a : AV} {f : Int} (h1 : OpAt w b1 r p q d a f) (h2 : OpAt w b2 r p q d a f) (ha : AttrsIn w a) :
    Calls Try.prog 23 #[.slice (some ⟨b1, 0, none⟩) 1 1, .slice (some ⟨b2, 0, none⟩) 1 1] w fun e w' => e = .returned (.bool true) ∧ Below w.heap.size w w' := by
  have H1 := Lib.hid h1
  have H2 := Lib.hid h2
  have HA := Lib.hid ha
  clear h1 h2 ha
  go_enter Try.func23, Try.ntmps23
  go_wp2_with fail
  go_loopw [5] (fun i wr => ∃ k : Nat, k ≤ 1 ∧ i = .int .i64 k ∧ Below w.heap.size w wr) (fun i _ => 1 - (intOf i).toNat)
  case atStart => exact ⟨0, by omega, rfl, Below.refl _ _⟩
  case round =>
    obtain ⟨k, hk, rfl, hb⟩ := hrel
    have HB := Lib.hid hb
    clear hb
    by_cases hkl : k = 0
    · subst hkl
      have HW := Lib.hid fun W b1 b2 (hb : Below w.heap.size w W) h1 h2 => sameroutes_any (w := W) (b1 := b1) (b2 := b2) (r := r) (p := p) (q := q) (d := d) (a := a) h1 h2 (HA.out.below hb)
      have HK := Lib.hid fun W (hb : Below w.heap.size w W) => (show (W.cell? ⟨b1, 0, none⟩ = some (.int .i64 r)) ∧ (W.cell? ⟨b1, 1, none⟩ = some (.int .u32 p)) ∧ (W.cell? ⟨b1, 2, none⟩ = some (.int .i64 q)) ∧ (W.cell? ⟨b1, 3, none⟩ = some (.int .i64 d)) ∧ (W.cell? ⟨b1, 4, none⟩ = some (.int .i64 a.og)) ∧ (W.cell? ⟨b1, 5, none⟩ = some (.slice a.P a.sg.length a.pc)) ∧ (W.cell? ⟨b1, 6, none⟩ = some (.int .u32 a.nx)) ∧ (W.cell? ⟨b1, 7, none⟩ = some (.int .i64 a.md)) ∧ (W.cell? ⟨b1, 8, none⟩ = some (.int .i64 a.pf)) ∧ (W.cell? ⟨b1, 9, none⟩ = some (.slice a.C a.cm.length a.cc)) ∧ (W.cell? ⟨b1, 10, none⟩ = some (.int .i64 f)) ∧ (W.cell? ⟨b2, 0, none⟩ = some (.int .i64 r)) ∧ (W.cell? ⟨b2, 1, none⟩ = some (.int .u32 p)) ∧ (W.cell? ⟨b2, 2, none⟩ = some (.int .i64 q)) ∧ (W.cell? ⟨b2, 3, none⟩ = some (.int .i64 d)) ∧ (W.cell? ⟨b2, 4, none⟩ = some (.int .i64 a.og)) ∧ (W.cell? ⟨b2, 5, none⟩ = some (.slice a.P a.sg.length a.pc)) ∧ (W.cell? ⟨b2, 6, none⟩ = some (.int .u32 a.nx)) ∧ (W.cell? ⟨b2, 7, none⟩ = some (.int .i64 a.md)) ∧ (W.cell? ⟨b2, 8, none⟩ = some (.int .i64 a.pf)) ∧ (W.cell? ⟨b2, 9, none⟩ = some (.slice a.C a.cm.length a.cc)) ∧ (W.cell? ⟨b2, 10, none⟩ = some (.int .i64 f)) from by
        have h1 := (H1.out.below hb).rg
        have h2 := (H2.out.below hb).rg
        exact ⟨h1 0 _ rfl, h1 1 _ rfl, h1 2 _ rfl, h1 3 _ rfl, h1 4 _ rfl, h1 5 _ rfl, h1 6 _ rfl, h1 7 _ rfl, h1 8 _ rfl, h1 9 _ rfl, h1 10 _ rfl, h2 0 _ rfl, h2 1 _ rfl, h2 2 _ rfl, h2 3 _ rfl, h2 4 _ rfl, h2 5 _ rfl, h2 6 _ rfl, h2 7 _ rfl, h2 8 _ rfl, h2 9 _ rfl, h2 10 _ rfl⟩)
      obtain ⟨og, P, sg, pc, nx, md, pf, C, cm, cc⟩ := a
      simp only at *
      have hk1 := HK.out wr HB.out
      have RT := Lib.hid (rt_two wr r p q d ⟨og, P, sg, pc, nx, md, pf, C, cm, cc⟩)
      clear HA H1 H2
      go_wp2_with fail
      go_region_held3 (fun W => (W.cell? ⟨b1, 0, none⟩ = some (.int .i64 r)) ∧ (W.cell? ⟨b1, 1, none⟩ = some (.int .u32 p)) ∧ (W.cell? ⟨b1, 2, none⟩ = some (.int .i64 q)) ∧ (W.cell? ⟨b1, 3, none⟩ = some (.int .i64 d)) ∧ (W.cell? ⟨b1, 4, none⟩ = some (.int .i64 og)) ∧ (W.cell? ⟨b1, 5, none⟩ = some (.slice P sg.length pc)) ∧ (W.cell? ⟨b1, 6, none⟩ = some (.int .u32 nx)) ∧ (W.cell? ⟨b1, 7, none⟩ = some (.int .i64 md)) ∧ (W.cell? ⟨b1, 8, none⟩ = some (.int .i64 pf)) ∧ (W.cell? ⟨b1, 9, none⟩ = some (.slice C cm.length cc)) ∧ (W.cell? ⟨b1, 10, none⟩ = some (.int .i64 f)) ∧ (W.cell? ⟨b2, 0, none⟩ = some (.int .i64 r)) ∧ (W.cell? ⟨b2, 1, none⟩ = some (.int .u32 p)) ∧ (W.cell? ⟨b2, 2, none⟩ = some (.int .i64 q)) ∧ (W.cell? ⟨b2, 3, none⟩ = some (.int .i64 d)) ∧ (W.cell? ⟨b2, 4, none⟩ = some (.int .i64 og)) ∧ (W.cell? ⟨b2, 5, none⟩ = some (.slice P sg.length pc)) ∧ (W.cell? ⟨b2, 6, none⟩ = some (.int .u32 nx)) ∧ (W.cell? ⟨b2, 7, none⟩ = some (.int .i64 md)) ∧ (W.cell? ⟨b2, 8, none⟩ = some (.int .i64 pf)) ∧ (W.cell? ⟨b2, 9, none⟩ = some (.slice C cm.length cc)) ∧ (W.cell? ⟨b2, 10, none⟩ = some (.int .i64 f))) (first | exact hk3 | exact hk1 | go_keep) ((go_at_call 36; refine (HW.out _ _ _ (by repeat (first | exact HB.out | refine Below.drew ?_ | refine Below.alloc ?_ (by have := HB.out.size; simp <;> omega) _)) (by repeat (first | exact RT.out.1 | exact RT.out.2 | refine RtAt.drew ?_)) (by repeat (first | exact RT.out.1 | exact RT.out.2 | refine RtAt.drew ?_))).mono ?_; rintro e w3 ⟨rfl, hb3⟩; have hbw3 : Below w.heap.size w w3 := Below.trans (by repeat (first | exact HB.out | refine Below.drew ?_ | refine Below.alloc ?_ (by have := HB.out.size; simp <;> omega) _)) (hb3.mono (by have := HB.out.size; simp; omega)); have hk3 := HK.out w3 hbw3))
      have HE := Lib.hid hbw3
      go_wp2_with fail
      go_roundw
      case rel => exact ⟨1, by omega, by go_num, by repeat (first | exact HE.out | refine Below.drew ?_)⟩
      case measure => simp [intOf]
      case roundEnd => exact ⟨⟨1, by omega, by go_num, by repeat (first | exact hbw3 | refine Below.drew ?_)⟩, by simp [intOf]⟩
    · obtain rfl : k = 1 := by omega
      go_wp2_with fail
      go_ret
      exact ⟨rfl, HB.out⟩
end Go.Proofs.Ytneablcgcdmgpaa
