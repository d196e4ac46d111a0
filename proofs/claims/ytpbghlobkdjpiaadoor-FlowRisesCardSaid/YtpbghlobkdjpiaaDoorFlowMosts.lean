/-
  Flow: the most is the number of the least cut, walked. Under: rooms and wants read as data; the library's table stands as its text lays it.
-/
import Derived.Test.YtpbghlobkdjpiaaDoorFlowM
namespace Go.Proofs.YtpbghlobkdjpiaaDoor
open Go.ChangeShapes Go.WideShapes Go.ChangeAt Go.RowKit Go.Maps

theorem okR_len {rs : List (Int × Int)} (h : okR rs = true) : rs.length ≤ 10 := by
  simp only [okR, Bool.and_eq_true, decide_eq_true_eq] at h
  exact h.2
theorem large_len {ws : List WV} (h : largeB ws = false) : ws.length ≤ 40 := by
  unfold largeB at h
  rw [Bool.or_eq_false_iff] at h
  have := h.1
  simp at this
  exact this

section
variable {w : World} {A A' : Option Addr} {c c' : Nat} {rs : List (Int × Int)} {ws : List WV}
theorem mosts_large (hT : TzAt w) (hr : RoomsIn w A rs) (hw : WantsIn w A' ws) (h : largeB ws = true ∨ 20 < rs.length) :
    Calls Tryd.prog 3 #[.slice A rs.length c, .slice A' ws.length c'] w fun e w' => e = .returned (.bool true) ∧ Below w.heap.size w w' := by
  have HL := Lib.hid (large_any (c' := c') hw)
  have HV := Lib.hid (lives_any w hT)
  have hlen := hr.len
  clear hT hr hw
  cases hb : largeB ws with
  | true =>
    rw [hb] at HL
    clear h hb
    go_enter Tryd.func3, Tryd.ntmps3
    go_wp2_with (first | (go_at_call 6; refine (HL.out).mono ?_; rintro e w' ⟨rfl, rfl⟩) | (go_at_call 7; refine (HV.out).mono ?_; rintro e w' ⟨rfl, hb⟩))
    go_ret
    exact ⟨rfl, hb⟩
  | false =>
    rw [hb] at HL
    have h20 : 20 < rs.length := by rcases h with h | h; rw [hb] at h; cases h; exact h
    clear h hb
    go_enter Tryd.func3, Tryd.ntmps3
    go_wp2_with (first | (go_at_call 6; refine (HL.out).mono ?_; rintro e w' ⟨rfl, rfl⟩) | (go_at_call 7; refine (HV.out).mono ?_; rintro e w' ⟨rfl, hb⟩))
    go_ret
    exact ⟨rfl, hb⟩
theorem mosts_bad (hT : TzAt w) (hr : RoomsIn w A rs) (hw : WantsIn w A' ws) (hb : largeB ws = false) (h20 : ¬ 20 < rs.length) (hok : okR rs = false) :
    Calls Tryd.prog 3 #[.slice A rs.length c, .slice A' ws.length c'] w fun e w' => e = .returned (.bool true) ∧ Below w.heap.size w w' := by
  have HL := Lib.hid (large_any (c' := c') hw)
  rw [hb] at HL
  have HT := Lib.hid hT
  have HR := Lib.hid hr
  have HOK := Lib.hid hok
  have HE := Lib.hid (show errR rs = 1 by simp [errR, hok])
  clear hT hr hw hb hok
  go_enter Tryd.func3, Tryd.ntmps3
  go_wp2_with fail
  refine (HL.out).mono ?_
  rintro e w' ⟨rfl, rfl⟩
  go_wp2_with fail
  refine (most_bad ws.length HR.out HOK.out).mono ?_
  rintro e w1 ⟨rfl, hb⟩
  have HB1 := Lib.hid hb
  clear hb
  go_wp2_with fail
  refine (need_bad ws.length (HR.out.below HB1.out) HOK.out).mono ?_
  rintro e w2 ⟨rfl, hb⟩
  have HB2 := Lib.hid (HB1.out.trans (hb.mono HB1.out.size))
  clear hb
  go_wp2_with fail
  refine (lives_any w2 (HT.out.below HB2.out)).mono ?_
  rintro e w3 ⟨rfl, hb⟩
  have HB3 := Lib.hid (HB2.out.trans (hb.mono HB2.out.size))
  clear hb
  go_wp2_with fail
  refine (rcheck_any A c rs HR.out.len (HR.out.below HB3.out).rd).mono ?_
  rintro e w4 ⟨rfl, hb⟩
  rw [HOK.out]
  have HB4 := Lib.hid (HB3.out.trans (hb.mono HB3.out.size))
  clear hb
  go_wp2_with fail
  refine (check_any A c rs HR.out.len (HR.out.below HB4.out).rd HR.out.wf).mono ?_
  rintro e w5 ⟨rfl, hb⟩
  rw [HE.out]
  have HB5 := Lib.hid (HB4.out.trans (hb.mono HB4.out.size))
  clear hb
  go_wp2_with fail
  go_ret
  exact ⟨rfl, HB5.out⟩
theorem mosts_ok (hT : TzAt w) (hr : RoomsIn w A rs) (hw : WantsIn w A' ws) (hb : largeB ws = false) (hok : okR rs = true) :
    Calls Tryd.prog 3 #[.slice A rs.length c, .slice A' ws.length c'] w fun e w' => e = .returned (.bool true) ∧ Below w.heap.size w w' := by
  have HL := Lib.hid (large_any (c' := c') hw)
  rw [hb] at HL
  have HT := Lib.hid hT
  have HR := Lib.hid hr
  have HW := Lib.hid hw
  have HOK := Lib.hid hok
  have h10 := okR_len hok
  have HN := Lib.hid (show ws.length ≤ 1024 by have := large_len hb; omega)
  clear hT hr hw hb hok
  go_enter Tryd.func3, Tryd.ntmps3
  go_wp2_with fail
  refine (HL.out).mono ?_
  rintro e w' ⟨rfl, rfl⟩
  go_wp2_with fail
  refine (most_ok HR.out HW.out HOK.out HN.out HT.out).mono ?_
  rintro e w1 ⟨rfl, hb⟩
  have HB1 := Lib.hid hb
  clear hb
  go_wp2_with fail
  refine (need_ok (HR.out.below HB1.out) (HW.out.below HB1.out) HOK.out HN.out (HT.out.below HB1.out)).mono ?_
  rintro e w2 ⟨rfl, hb⟩
  have HB2 := Lib.hid (HB1.out.trans (hb.mono HB1.out.size))
  clear hb
  go_wp2_with fail
  refine (lives_any w2 (HT.out.below HB2.out)).mono ?_
  rintro e w3 ⟨rfl, hb⟩
  have HB4 := Lib.hid (HB2.out.trans (hb.mono HB2.out.size))
  clear hb
  go_wp2_with fail
  refine (rcheck_any A c rs HR.out.len (HR.out.below HB4.out).rd).mono ?_
  rintro e w4 ⟨rfl, hb⟩
  rw [HOK.out]
  have HB4 := Lib.hid (HB4.out.trans (hb.mono HB4.out.size))
  clear hb
  go_wp2_with fail
  refine (rleast_any (HR.out.below HB4.out) (HW.out.below HB4.out) h10).mono ?_
  rintro e w5 ⟨rfl, hb⟩
  have HB5 := Lib.hid (HB4.out.trans (hb.mono HB4.out.size))
  clear hb
  go_wp2_with fail
  refine (rsum_any (HW.out.below HB5.out)).mono ?_
  rintro e w6 ⟨rfl, rfl⟩
  go_wp2_with fail
  refine (rsub_any _ _ _).mono ?_
  rintro e w6 ⟨rfl, rfl⟩
  go_wp2_with fail
  go_ret
  exact ⟨by simp, HB5.out⟩
theorem mosts_walk (hT : TzAt w) (hr : RoomsIn w A rs) (hw : WantsIn w A' ws) :
    Calls Tryd.prog 3 #[.slice A rs.length c, .slice A' ws.length c'] w fun e w' => e = .returned (.bool true) ∧ Below w.heap.size w w' := by
  cases hb : largeB ws with
  | true => exact mosts_large hT hr hw (.inl hb)
  | false =>
    by_cases h20 : 20 < rs.length
    · exact mosts_large hT hr hw (.inr h20)
    · cases hok : okR rs with
      | true => exact mosts_ok hT hr hw hb hok
      | false => exact mosts_bad hT hr hw hb h20 hok
end
end Go.Proofs.YtpbghlobkdjpiaaDoor
