/-
  Flow: what must come of every program. Under: the library's table stands as its text lays it.
-/
import Derived.Test.YtpbghlobkdjpiaaDoorFlowL
namespace Go.Proofs.YtpbghlobkdjpiaaDoor
open Go.ChangeShapes Go.WideShapes Go.ChangeAt Go.RowKit Go.Maps

theorem results_cell1 {P : Program} {fn : Func} {p : Tmp} {ty : TypeId} (h : fn.results = #[.cell p ty]) (tmps : Array Value) (w : World) (g : Nat) (t : TypeId) (cs : Array Value) (fr : Nat × Nat) (d : TypeDesc)
    (hp : tmps.getD p undef = .pointer (some ⟨g, 0, none⟩)) (hg : w.heap[g]? = some (.cells cs t fr))
    (hu : P.underlying ty = some d) (hd : (match d with | .struct _ | .array _ _ => true | _ => false) = true) (hi : (P.info? ty).map (·.size) = some cs.size) :
    (results fn tmps).run P w = .ok (.agg cs) w := by
  have h1 : tmps[p]?.getD undef = .pointer (some ⟨g, 0, none⟩) := by simpa using hp
  simp [results, h, h1, asAddr, run_loadVar_row w g t ty cs fr d hg hu hd hi]
/-- an option by an interface; its want -/
def optArr (i : Int) : Array Value := #[.int .i64 0, .int .u32 0, .int .i64 0, .int .i64 0, .int .i64 0, .slice none 0 0, .int .u32 0, .int .i64 0, .int .i64 0, .slice none 0 0, .int .i64 i]
def wantArr (n f : Int) (g : Nat) : Array Value := #[.int .u32 0, .int .i64 0, .int .i64 n, .int .i64 0, .int .u32 0, .int .i64 0, .int .i64 0, .int .i64 0, .slice none 0 0, .int .u32 0, .int .i64 0, .int .i64 0, .slice none 0 0, .int .i64 f, .slice (some ⟨g, 0, none⟩) 1 1, .int .i64 0]
theorem want_any (n f o : Int) (w : World) : Calls Tryd.prog 19 #[.int .i64 n, .int .i64 f, .int .i64 o] w fun e w' => e = .returned (.agg #[.int .u32 0, .int .i64 0, .int .i64 n, .int .i64 0, .int .u32 0, .int .i64 0, .int .i64 0, .int .i64 0, .slice none 0 0, .int .u32 0, .int .i64 0, .int .i64 0, .slice none 0 0, .int .i64 f, .slice (some ⟨w.heap.size + 1, 0, none⟩) 1 1, .int .i64 0]) ∧ Blk w' (w.heap.size + 1) 52 (optArr o) ∧ Below w.heap.size w w' := by
  go_enter Tryd.func19, Tryd.ntmps19
  go_wp2_with fail
  refine bodyPost_ret (results_cell1 rfl _ _ w.heap.size 55 (wantArr n f (w.heap.size + 1)) (0, 0) _ (by simp) ?_ Tryd.underlying55 rfl (by kernel_rfl)) rfl ?_
  · exact (Blk.new w 55 (wantArr n f (w.heap.size + 1))).alloc _
  · refine ⟨rfl, ?_, below_a2 _ _ _⟩
    have h := Blk.new (w.alloc (.cells (wantArr n f (w.heap.size + 1)) 55)) 52 (optArr o)
    rw [show (w.alloc (.cells (wantArr n f (w.heap.size + 1)) 55)).heap.size = w.heap.size + 1 by simp] at h
    exact h

/-- the rooms and wants of what must come -/
def lRooms : List (Int × Int) := [(1, 10), (2, 5)]
def lWant (n f o : Int) (g : Nat) : WV := ⟨wantArr n f g, n, f, some ⟨g, 0, none⟩, 1, [⟨optArr o, o⟩]⟩
theorem lWant_ok (n f o : Int) (g : Nat) (hf : (Lit.int .i64 f).wf = true) (ho : (Lit.int .i64 o).wf = true) : (lWant n f o g).ok :=
  ⟨rfl, rfl, rfl, rfl, hf, by simp [lWant, wantArr, Value.oneCell'], fun v hv => by
    obtain rfl : v = ⟨optArr o, o⟩ := by simpa [lWant] using hv
    exact ⟨rfl, rfl, ho, by simp [optArr, Value.oneCell']⟩, by simp [lWant]⟩
def lW (g1 g2 : Nat) : List WV := [lWant 8 1 2 g1, lWant 9 1 1 g2]
theorem lW_fw (g1 g2 : Nat) : (lW g1 g2).map WV.fw = [⟨8, [1, 2]⟩, ⟨9, [1, 1]⟩] := rfl
def lF : List FW := [⟨8, [1, 2]⟩, ⟨9, [1, 1]⟩]
theorem l_least : leastZ lRooms lF = 15 := by decide +kernel
theorem l_sum (g1 g2 : Nat) : sumAll (lW g1 g2) = 17 := by
  show capZ ((if true = true then nearZ 8 else 0) + ((if true = true then nearZ 9 else 0) + 0)) = 17
  decide
theorem l_need : subZ 17 15 = 2 := by decide +kernel
theorem l_cut : cutV lRooms lF [1] = 18 := by decide +kernel
theorem l_cutE : cutE lRooms [1] = 0 := by decide +kernel
theorem l_cut3 : cutE lRooms [3] = 4 := by decide +kernel
theorem l_ok : okR lRooms = true := by decide +kernel
theorem l_bad : okR [(-1, 0)] = false := by decide +kernel
theorem l_err : errR lRooms = 0 := by decide +kernel
theorem lRooms_wf : RoomsWf lRooms := by
  intro r hr
  simp [lRooms] at hr
  rcases hr with rfl | rfl <;> exact ⟨rfl, rfl⟩
theorem lRooms_in {w : World} {g : Nat} (h : Blk w g 57 #[.int .i64 1, .int .i64 10, .int .i64 2, .int .i64 5]) : RoomsIn w (some ⟨g, 0, none⟩) lRooms :=
  ⟨by decide, (reads_of_blk h).mono (fun _ _ _ => trivial), lRooms_wf⟩
theorem lWants_in {w : World} {g g1 g2 : Nat} (h1 : Blk w g1 52 (optArr 2)) (h2 : Blk w g2 52 (optArr 1)) (h : Blk w g 55 #[.int .u32 0, .int .i64 0, .int .i64 8, .int .i64 0, .int .u32 0, .int .i64 0, .int .i64 0, .int .i64 0, .slice none 0 0, .int .u32 0, .int .i64 0, .int .i64 0, .slice none 0 0, .int .i64 1, .slice (some ⟨g1, 0, none⟩) 1 1, .int .i64 0, .int .u32 0, .int .i64 0, .int .i64 9, .int .i64 0, .int .u32 0, .int .i64 0, .int .i64 0, .int .i64 0, .slice none 0 0, .int .u32 0, .int .i64 0, .int .i64 0, .slice none 0 0, .int .i64 1, .slice (some ⟨g2, 0, none⟩) 1 1, .int .i64 0]) : WantsIn w (some ⟨g, 0, none⟩) (lW g1 g2) := by
  have e : #[.int .u32 0, .int .i64 0, .int .i64 8, .int .i64 0, .int .u32 0, .int .i64 0, .int .i64 0, .int .i64 0, .slice none 0 0, .int .u32 0, .int .i64 0, .int .i64 0, .slice none 0 0, .int .i64 1, .slice (some ⟨g1, 0, none⟩) 1 1, .int .i64 0, .int .u32 0, .int .i64 0, .int .i64 9, .int .i64 0, .int .u32 0, .int .i64 0, .int .i64 0, .int .i64 0, .slice none 0 0, .int .u32 0, .int .i64 0, .int .i64 0, .slice none 0 0, .int .i64 1, .slice (some ⟨g2, 0, none⟩) 1 1, .int .i64 0].toList = wantCells (lW g1 g2) := by simp [wantCells, lW, lWant, wantArr]
  refine ⟨by simp [lW], e ▸ (reads_of_blk h).mono (fun _ _ _ => trivial), fun v hv => ?_⟩
  simp [lW] at hv
  rcases hv with rfl | rfl
  · exact ⟨lWant_ok _ _ _ _ rfl rfl, (reads_of_blk h1).mono (fun _ _ _ => trivial)⟩
  · exact ⟨lWant_ok _ _ _ _ rfl rfl, (reads_of_blk h2).mono (fun _ _ _ => trivial)⟩

theorem lInts_in {w : World} {g : Nat} {n : Int} (h : Blk w g 3 #[.int .i64 n]) (hn : (Lit.int .i64 n).wf = true) : IntsIn w (some ⟨g, 0, none⟩) [n] :=
  ⟨by simp, (reads_of_blk h).mono (fun _ _ _ => trivial), fun v hv => by simp at hv; exact hv ▸ hn⟩
theorem lBad_in {w : World} {g : Nat} (h : Blk w g 57 #[.int .i64 (-1), .int .i64 0]) : RoomsIn w (some ⟨g, 0, none⟩) [(-1, 0)] :=
  ⟨by simp, (reads_of_blk h).mono (fun _ _ _ => trivial), fun r hr => by simp at hr; subst hr; exact ⟨rfl, rfl⟩⟩

def wantArr0 : Array Value := #[.int .u32 0, .int .i64 0, .int .i64 0, .int .i64 0, .int .u32 0, .int .i64 0, .int .i64 0, .int .i64 0, .slice none 0 0, .int .u32 0, .int .i64 0, .int .i64 0, .slice none 0 0, .int .i64 0, .slice none 0 0, .int .i64 0]
theorem infoWant : (Tryd.prog.info? 55).map (fun i => (i.zero, i.size, i.bytes)) = some (some (.agg wantArr0), 16, 176) := by kernel_rfl

theorem lives_any (w : World) (hT : TzAt w) : Calls Tryd.prog 7 #[] w fun e w' => e = .returned (.bool true) ∧ Below w.heap.size w w' := by
  have HT := Lib.hid hT
  clear hT
  have hb0 := below_a1 w (.cells #[.int .i64 1, .int .i64 10, .int .i64 2, .int .i64 5] 57)
  have HR := Lib.hid (Blk.new w 57 #[.int .i64 1, .int .i64 10, .int .i64 2, .int .i64 5])
  have HB := Lib.hid hb0
  clear hb0
  go_enter Tryd.func7, Tryd.ntmps7
  go_wp2_with fail
  refine (want_any 8 1 2 _).mono ?_
  rintro e w1 ⟨rfl, hB1, hb1⟩
  have HB01 := Lib.hid (HB.out.trans (hb1.mono HB.out.size))
  have HR1 := Lib.hid (HR.out.below hb1 HR.out.lt)
  generalize w.alloc (.cells #[.int .i64 1, .int .i64 10, .int .i64 2, .int .i64 5] 57) = w0 at *
  have HB1 := Lib.hid hB1
  generalize w0.heap.size + 1 = g1 at *
  clear hB1 hb1 HB HR
  go_wp2_with fail
  refine (want_any 9 1 1 _).mono ?_
  rintro e w2 ⟨rfl, hB2, hb2⟩
  have HB02 := Lib.hid (HB01.out.trans (hb2.mono HB01.out.size))
  have HR2 := Lib.hid (HR1.out.below hb2 HR1.out.lt)
  have HB12 := Lib.hid (HB1.out.below hb2 HB1.out.lt)
  have HB22 := Lib.hid hB2
  generalize w1.heap.size + 1 = g2 at *
  clear hB2 hb2 HB1 HR1 HB01
  have hbn := below_a1 w2 (.cells #[.int .u32 0, .int .i64 0, .int .i64 8, .int .i64 0, .int .u32 0, .int .i64 0, .int .i64 0, .int .i64 0, .slice none 0 0, .int .u32 0, .int .i64 0, .int .i64 0, .slice none 0 0, .int .i64 1, .slice (some ⟨g1, 0, none⟩) 1 1, .int .i64 0, .int .u32 0, .int .i64 0, .int .i64 9, .int .i64 0, .int .u32 0, .int .i64 0, .int .i64 0, .int .i64 0, .slice none 0 0, .int .u32 0, .int .i64 0, .int .i64 0, .slice none 0 0, .int .i64 1, .slice (some ⟨g2, 0, none⟩) 1 1, .int .i64 0] 55)
  have hBN := Blk.new w2 55 #[.int .u32 0, .int .i64 0, .int .i64 8, .int .i64 0, .int .u32 0, .int .i64 0, .int .i64 0, .int .i64 0, .slice none 0 0, .int .u32 0, .int .i64 0, .int .i64 0, .slice none 0 0, .int .i64 1, .slice (some ⟨g1, 0, none⟩) 1 1, .int .i64 0, .int .u32 0, .int .i64 0, .int .i64 9, .int .i64 0, .int .u32 0, .int .i64 0, .int .i64 0, .int .i64 0, .slice none 0 0, .int .u32 0, .int .i64 0, .int .i64 0, .slice none 0 0, .int .i64 1, .slice (some ⟨g2, 0, none⟩) 1 1, .int .i64 0]
  have HRI := Lib.hid (lRooms_in (HR2.out.below hbn HR2.out.lt))
  have HWI := Lib.hid (lWants_in (HB12.out.below hbn HB12.out.lt) (HB22.out.below hbn HB22.out.lt) hBN)
  have HB3 := Lib.hid (HB02.out.trans (hbn.mono HB02.out.size))
  clear hBN hbn
  go_wp2_with fail
  generalize w2.alloc (.cells #[.int .u32 0, .int .i64 0, .int .i64 8, .int .i64 0, .int .u32 0, .int .i64 0, .int .i64 0, .int .i64 0, .slice none 0 0, .int .u32 0, .int .i64 0, .int .i64 0, .slice none 0 0, .int .i64 1, .slice (some ⟨g1, 0, none⟩) 1 1, .int .i64 0, .int .u32 0, .int .i64 0, .int .i64 9, .int .i64 0, .int .u32 0, .int .i64 0, .int .i64 0, .int .i64 0, .slice none 0 0, .int .u32 0, .int .i64 0, .int .i64 0, .slice none 0 0, .int .i64 1, .slice (some ⟨g2, 0, none⟩) 1 1, .int .i64 0] 55) = w3 at *
  clear HR2 HB12 HB22 HB02
  generalize w2.heap.size = gw at *
  have H := most_ok (c := 2) (c' := 2) HRI.out HWI.out l_ok (by simp [lW]) (HT.out.below HB3.out)
  rw [lW_fw, show [⟨8, [1, 2]⟩, ⟨9, [1, 1]⟩] = lF from rfl, l_least] at H
  refine H.mono ?_
  clear H
  rintro e w4 ⟨rfl, hb⟩
  have HRI4 := Lib.hid (HRI.out.below hb)
  have HWI4 := Lib.hid (HWI.out.below hb)
  have HB4 := Lib.hid (HB3.out.trans (hb.mono HB3.out.size))
  clear hb HRI HWI HB3
  go_wp2_with fail
  have H := need_ok (c := 2) (c' := 2) HRI4.out HWI4.out l_ok (by simp [lW]) (HT.out.below HB4.out)
  rw [lW_fw, show [⟨8, [1, 2]⟩, ⟨9, [1, 1]⟩] = lF from rfl, l_least, l_sum, l_need] at H
  refine H.mono ?_
  clear H
  rintro e w5 ⟨rfl, hb⟩
  have HRI5 := Lib.hid (HRI4.out.below hb)
  have HWI5 := Lib.hid (HWI4.out.below hb)
  have HB5 := Lib.hid (HB4.out.trans (hb.mono HB4.out.size))
  clear hb HRI4 HWI4 HB4
  have hb := below_a1 w5 (.cells #[.int .i64 1] 3)
  have HI := Lib.hid (lInts_in (Blk.new w5 3 #[.int .i64 1]) rfl)
  have HRI6 := Lib.hid (HRI5.out.below hb)
  have HWI6 := Lib.hid (HWI5.out.below hb)
  have HB6 := Lib.hid (HB5.out.trans (hb.mono HB5.out.size))
  clear hb HRI5 HWI5
  go_wp2_with fail
  have H := fcut_ok (c := 2) (c' := 2) (c2 := 1) HRI6.out HWI6.out HI.out l_ok (by simp [lW]) (HT.out.below HB6.out)
  rw [lW_fw, show [⟨8, [1, 2]⟩, ⟨9, [1, 1]⟩] = lF from rfl, l_cut, l_cutE] at H
  refine H.mono ?_
  clear H HI
  rintro e w7 ⟨rfl, hb⟩
  have HRI7 := Lib.hid (HRI6.out.below hb)
  have HWI7 := Lib.hid (HWI6.out.below hb)
  have HB7 := Lib.hid (HB6.out.trans (hb.mono HB6.out.size))
  clear hb HRI6 HWI6 HB6 HB5
  have hb := below_a1 w7 (.cells #[.int .i64 3] 3)
  have HI := Lib.hid (lInts_in (Blk.new w7 3 #[.int .i64 3]) rfl)
  have HRI8 := Lib.hid (HRI7.out.below hb)
  have HWI8 := Lib.hid (HWI7.out.below hb)
  have HB8 := Lib.hid (HB7.out.trans (hb.mono HB7.out.size))
  clear hb HRI7 HWI7
  go_wp2_with fail
  have H := fcut_ok (c := 2) (c' := 2) (c2 := 1) HRI8.out HWI8.out HI.out l_ok (by simp [lW]) (HT.out.below HB8.out)
  rw [lW_fw, show [⟨8, [1, 2]⟩, ⟨9, [1, 1]⟩] = lF from rfl, l_cut3] at H
  refine H.mono ?_
  clear H HI
  rintro e w9 ⟨rfl, hb⟩
  have HRI9 := Lib.hid (HRI8.out.below hb)
  have HWI9 := Lib.hid (HWI8.out.below hb)
  have HB9 := Lib.hid (HB8.out.trans (hb.mono HB8.out.size))
  clear hb HRI8 HWI8 HB8 HB7
  have hb := below_a1 w9 (.cells #[.int .i64 (-1), .int .i64 0] 57)
  have HBR := Lib.hid (lBad_in (Blk.new w9 57 #[.int .i64 (-1), .int .i64 0]))
  have HRI10 := Lib.hid (HRI9.out.below hb)
  have HB10 := Lib.hid (HB9.out.trans (hb.mono HB9.out.size))
  clear hb HRI9 HWI9
  go_wp2_with fail
  refine (most_bad (A' := none) (c := 1) (c' := 0) 0 HBR.out l_bad).mono ?_
  rintro e w11 ⟨rfl, hb⟩
  have HRI11 := Lib.hid (HRI10.out.below hb)
  have HB11 := Lib.hid (HB10.out.trans (hb.mono HB10.out.size))
  clear hb HRI10 HB10 HBR HB9
  obtain ⟨i0, hi, hz0, hz1, hz2⟩ := info_parts infoWant
  go_wp2_with (refine wpList_make_w _ (by rfl) (.const (.int .i64 1025)) (.const (.int .i64 1025)) 23 rfl w11.heap.size 55 i0 (.agg (wantArr0)) 16 Tryd.underlying23 hi hz0 hz1 .i64 .i64 _ _ 1025 (by rfl) (by rfl) rfl rfl (by rw [hz2]; omega) (by unfold maxLen; omega) (Nat.le_refl _) ?_)
  intro W15 o15 gr15
  have b15 : Below w11.heap.size w11 W15 := (Below.refl _ _).grown gr15 (Nat.le_refl _) (fun k hk => by cases hk)
  have HRI15 := Lib.hid (HRI11.out.below b15)
  have HB15 := Lib.hid (HB11.out.trans (b15.mono HB11.out.size))
  clear b15 o15 gr15 HRI11 HB11
  go_wp2_with fail
  refine (most_long (c := 2) (c' := 1025) 1025 HRI15.out l_ok (by decide)).mono ?_
  rintro e w16 ⟨rfl, hb⟩
  have HRI16 := Lib.hid (HRI15.out.below hb)
  have HB16 := Lib.hid (HB15.out.trans (hb.mono HB15.out.size))
  clear hb HRI15 HB15
  go_wp2_with (go_at_call 11; refine (check_any (some ⟨w.heap.size, 0, none⟩) 2 lRooms HRI16.out.len HRI16.out.rd HRI16.out.wf).mono ?_; rintro e w17 ⟨rfl, hb⟩; rw [l_err]; have HB17 := Lib.hid (HB16.out.trans (hb.mono HB16.out.size)); clear hb)
  go_ret
  exact ⟨rfl, HB17.out⟩
end Go.Proofs.YtpbghlobkdjpiaaDoor
