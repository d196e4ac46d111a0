/-
  What is monitored: which messages are there, Check. No condition but that bytes read as data and the table of least lengths as it is laid.
-/
import Derived.Test.YtbmbpcibihddaaaDoorBmpF
namespace Go.Proofs.YtbmbpcibihddaaaDoor
open Go.ChangeShapes Go.WideShapes Go.ChangeAt Go.RowKit

theorem MoV.Rd.alloc {m : MoV} {w : World} {F : Nat → Prop} (h : m.Rd w F) (o : Obj) : m.Rd (w.alloc o) F := ⟨h.s.alloc o, h.c.alloc o, h.sl, h.cl, h.sk, h.ck, h.tl⟩
theorem Below.of_drew {B : Nat} {w w' : World} (h : Below B w.drew w') : Below B w w' := ⟨h.os, h.tape, h.output, h.size, h.block⟩
set_option maxRecDepth 20000 in
set_option maxHeartbeats 8000000 in
theorem msgs_any (m : MoV) (w : World) (F : Nat → Prop) (hr : m.Rd w F) (hT : LeastAt w) :
    Calls Tryd.prog 50 #[m.val] w fun e w' => e = .returned (.bool m.d.msgs) ∧ Below w.heap.size w w' := by
  have hb0 := below_a1 w (.cells m.cells 45)
  have hk0 := Blk.new w 45 m.cells
  have HWC := Lib.hid fun (k : Int) (W : World) (hb : Below w.heap.size w W) => whole_any m.cA m.cc m.came (fun _ => True) k W hr.ck hr.cl ((hr.c.mono (G := (· < w.heap.size)) (fun _ h _ => h)).below hb (fun _ _ h => h) |>.mono (fun _ _ _ => trivial)) (hT.below hb)
  have HWS := Lib.hid fun (k : Int) (W : World) (hb : Below w.heap.size w W) => whole_any m.sA m.sc m.sent (fun _ => True) k W hr.sk hr.sl ((hr.s.mono (G := (· < w.heap.size)) (fun _ h _ => h)).below hb (fun _ _ h => h) |>.mono (fun _ _ _ => trivial)) (hT.below hb)
  have HTL : m.text.length ≤ 9223372036854775807 := hr.tl
  have HSZ : (str m.text).size = m.text.length := by simp [str, ByteArray.size]
  have HB0 := Lib.hid hb0
  have HK0 := Lib.hid hk0
  clear hr hT hb0 hk0
  have HM : m.d.msgs = (if m.kind = 0 then wholeB m.came 2 else if m.kind = 2 then decide (1 ≤ m.reason) && decide (m.reason ≤ 4) && (!notedB m.reason || wholeB m.came 3) else if m.kind = 3 then wholeB m.sent 1 && wholeB m.came 1 else if talksB m.kind then decide (m.text.length ≤ 255) else false) := rfl
  have HN := Lib.hid fun W => noted_any m.reason W
  generalize m.d.msgs = R at *
  have hk : m.kind = 0 ∨ m.kind = 2 ∨ m.kind = 3 ∨ m.kind = 4 ∨ m.kind = 5 ∨ (¬ m.kind = 0 ∧ ¬ m.kind = 2 ∧ ¬ m.kind = 3 ∧ ¬ m.kind = 4 ∧ ¬ m.kind = 5) := by omega
  obtain ⟨kind, id, addr, asn, time, reason, own, sA, sc, sent, cA, cc, came, text⟩ := m
  simp only [MoV.val, MoV.cells] at *
  generalize text.length = tl at *
  generalize str text = tx at *
  generalize notedB reason = nb at *
  rcases hk with rfl | rfl | rfl | rfl | rfl | ⟨h0, h2, h3, h4, h5⟩
  · have HE := Lib.hid (show R = wholeB came 2 from by rw [HM]; simp)
    clear HM HSZ
    go_enter Tryd.func50, Tryd.ntmps50
    go_wp2_with fail
    refine (HWC.out 2 _ HB0.out).mono ?_
    rintro e w1 ⟨rfl, hb⟩
    go_wp2_with fail
    go_ret
    exact ⟨by rw [HE.out]; rfl, HB0.out.trans (hb.mono HB0.out.size)⟩
  · have hr : (¬ 1 ≤ reason) ∨ (1 ≤ reason ∧ ¬ reason ≤ 4) ∨ (1 ≤ reason ∧ reason ≤ 4) := by omega
    clear HSZ
    rcases hr with h | ⟨h, h'⟩ | ⟨h, h'⟩
    · have HE := Lib.hid (show R = false from by rw [HM]; simp [h])
      clear HM
      go_enter Tryd.func50, Tryd.ntmps50
      go_wp2_with fail
      go_ret
      exact ⟨by rw [HE.out]; rfl, HB0.out⟩
    · have HE := Lib.hid (show R = false from by rw [HM]; simp [h'])
      clear HM
      go_enter Tryd.func50, Tryd.ntmps50
      go_wp2_with fail
      go_ret
      exact ⟨by rw [HE.out]; rfl, HB0.out⟩
    · cases nb
      · have HE := Lib.hid (show R = true from by rw [HM]; simp [h, h'])
        clear HM
        go_enter Tryd.func50, Tryd.ntmps50
        go_wp2_with fail
        refine (HN.out _).mono ?_
        rintro e w1 ⟨rfl, rfl⟩
        go_wp2_with fail
        go_ret
        exact ⟨by rw [HE.out]; rfl, HB0.out⟩
      · have HE := Lib.hid (show R = wholeB came 3 from by rw [HM]; simp [h, h'])
        clear HM
        go_enter Tryd.func50, Tryd.ntmps50
        go_wp2_with fail
        refine (HN.out _).mono ?_
        rintro e w1 ⟨rfl, rfl⟩
        go_wp2_with fail
        refine (HWC.out 3 _ HB0.out).mono ?_
        rintro e w1 ⟨rfl, hb⟩
        go_wp2_with fail
        go_ret
        exact ⟨by rw [HE.out]; rfl, HB0.out.trans (hb.mono HB0.out.size)⟩
  · clear HSZ
    generalize hws : wholeB sent 1 = ws at *
    have HWS1 := Lib.hid (show Calls _ _ _ _ (fun e w' => e = .returned (.bool ws) ∧ Below (w.alloc _).heap.size _ w') from by have := HWS.out 1 _ HB0.out; rw [hws] at this; exact this)
    cases ws
    · have HE := Lib.hid (show R = false from by rw [HM]; simp)
      clear HM hws
      go_enter Tryd.func50, Tryd.ntmps50
      go_wp2_with fail
      refine HWS1.out.mono ?_
      rintro e w1 ⟨rfl, hb⟩
      go_wp2_with fail
      go_ret
      exact ⟨by rw [HE.out]; rfl, HB0.out.trans (hb.mono HB0.out.size)⟩
    · have HE := Lib.hid (show R = wholeB came 1 from by rw [HM]; simp)
      clear HM hws
      go_enter Tryd.func50, Tryd.ntmps50
      go_wp2_with fail
      refine HWS1.out.mono ?_
      rintro e w1 ⟨rfl, hb⟩
      have HB1 := Lib.hid (HB0.out.trans (hb.mono HB0.out.size))
      have hq := (HK0.out.below hb HK0.out.lt).cell 8
      simp at hq
      clear hb
      go_wp2_with fail
      refine (HWC.out 1 _ HB1.out).mono ?_
      rintro e w2 ⟨rfl, hb⟩
      go_wp2_with fail
      go_ret
      exact ⟨by rw [HE.out]; rfl, HB1.out.trans (hb.mono HB1.out.size)⟩
  · have HE := Lib.hid (show R = decide (tl ≤ 255) from by rw [HM]; simp [talksB])
    clear HM
    go_enter Tryd.func50, Tryd.ntmps50
    go_wp2_with fail
    go_ret
    refine ⟨?_, HB0.out⟩
    rw [HE.out]
    simp
    omega
  · have HE := Lib.hid (show R = decide (tl ≤ 255) from by rw [HM]; simp [talksB])
    clear HM
    go_enter Tryd.func50, Tryd.ntmps50
    go_wp2_with fail
    go_ret
    refine ⟨?_, HB0.out⟩
    rw [HE.out]
    simp
    omega
  · have HE := Lib.hid (show R = false from by rw [HM]; simp [h0, h2, h3, h4, h5, talksB])
    clear HM HSZ
    go_enter Tryd.func50, Tryd.ntmps50
    go_wp2_with fail
    go_ret
    exact ⟨by rw [HE.out]; rfl, HB0.out⟩
end Go.Proofs.YtbmbpcibihddaaaDoor
