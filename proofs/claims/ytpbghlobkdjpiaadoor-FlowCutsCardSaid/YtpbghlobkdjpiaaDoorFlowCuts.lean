/-
  Flow: the number of any cut, walked. Under: rooms, wants, numbers read as data; the library's table stands as its text lays it.
-/
import Derived.Test.YtpbghlobkdjpiaaDoorFlowMosts
namespace Go.Proofs.YtpbghlobkdjpiaaDoor
open Go.ChangeShapes Go.WideShapes Go.ChangeAt Go.RowKit Go.Maps

section
variable {w : World} {A A' A2 : Option Addr} {c c' c2 : Nat} {rs : List (Int × Int)} {ws : List WV} {l : List Int}
theorem cuts_large (hT : TzAt w) (hr : RoomsIn w A rs) (hw : WantsIn w A' ws) (hl : IntsIn w A2 l) (h : largeB ws = true ∨ largeB ws = false ∧ okR rs = false ∨ largeB ws = false ∧ okR rs = true ∧ 50 < l.length) :
    Calls Tryd.prog 4 #[.slice A rs.length c, .slice A' ws.length c', .slice A2 l.length c2] w fun e w' => e = .returned (.bool true) ∧ Below w.heap.size w w' := by
  have HL := Lib.hid (large_any (c' := c') hw)
  have HC := Lib.hid (rcheck_any A c rs hr.len hr.rd)
  have HV := Lib.hid fun W (hb : Below w.heap.size w W) => lives_any W (hT.below hb)
  have hlen := hl.len
  clear hT hr hw hl
  rcases h with hb | ⟨hb, hok⟩ | ⟨hb, hok, h50⟩
  · rw [hb] at HL
    clear hb
    go_enter Tryd.func4, Tryd.ntmps4
    go_wp2_with (first | (go_at_call 6; refine (HL.out).mono ?_; rintro e w' ⟨rfl, rfl⟩) | (go_at_call 7; refine (HV.out _ (Below.refl _ _)).mono ?_; rintro e w' ⟨rfl, hb⟩))
    go_ret
    exact ⟨rfl, hb⟩
  · rw [hb] at HL
    rw [hok] at HC
    clear hb hok
    go_enter Tryd.func4, Tryd.ntmps4
    go_wp2_with fail
    refine (HL.out).mono ?_
    rintro e w' ⟨rfl, rfl⟩
    go_wp2_with fail
    refine (HC.out).mono ?_
    rintro e w1 ⟨rfl, hb1⟩
    have HB1 := Lib.hid hb1
    clear hb1
    go_wp2_with fail
    refine (HV.out _ HB1.out).mono ?_
    rintro e w2 ⟨rfl, hb⟩
    have HB2 := Lib.hid (HB1.out.trans (hb.mono HB1.out.size))
    go_wp2_with fail
    go_ret
    exact ⟨rfl, HB2.out⟩
  · rw [hb] at HL
    rw [hok] at HC
    clear hb hok
    go_enter Tryd.func4, Tryd.ntmps4
    go_wp2_with fail
    refine (HL.out).mono ?_
    rintro e w' ⟨rfl, rfl⟩
    go_wp2_with fail
    refine (HC.out).mono ?_
    rintro e w1 ⟨rfl, hb1⟩
    have HB1 := Lib.hid hb1
    clear hb1
    go_wp2_with fail
    refine (HV.out _ HB1.out).mono ?_
    rintro e w2 ⟨rfl, hb⟩
    have HB2 := Lib.hid (HB1.out.trans (hb.mono HB1.out.size))
    go_wp2_with fail
    go_ret
    exact ⟨rfl, HB2.out⟩
set_option maxHeartbeats 1000000 in
theorem cuts_out (hT : TzAt w) (hr : RoomsIn w A rs) (hw : WantsIn w A' ws) (hl : IntsIn w A2 l) (hb : largeB ws = false) (hok : okR rs = true) (h50 : ¬ 50 < l.length) (hin : inAll (ifsOf rs) l = false) :
    Calls Tryd.prog 4 #[.slice A rs.length c, .slice A' ws.length c', .slice A2 l.length c2] w fun e w' => e = .returned (.bool true) ∧ Below w.heap.size w w' := by
  have HL := Lib.hid (large_any (c' := c') hw)
  rw [hb] at HL
  have HT := Lib.hid hT
  have HR := Lib.hid hr
  have HW := Lib.hid hw
  have HI := Lib.hid hl
  have HOK := Lib.hid hok
  have h10 := okR_len hok
  have HN := Lib.hid (show ws.length ≤ 1024 by have := large_len hb; omega)
  have HC1 := Lib.hid (show cutV rs (ws.map WV.fw) l = 0 by simp [cutV, hin])
  have HC2 := Lib.hid (show cutE rs l = 4 by simp [cutE, hin])
  have HIN := Lib.hid hin
  clear hT hr hw hb hok hl hin
  go_enter Tryd.func4, Tryd.ntmps4
  go_wp2_with fail
  refine (HL.out).mono ?_
  rintro e w' ⟨rfl, rfl⟩
  go_wp2_with fail
  refine (rcheck_any A c rs HR.out.len HR.out.rd).mono ?_
  rintro e w1 ⟨rfl, hb⟩
  rw [HOK.out]
  have HB1 := Lib.hid hb
  clear hb
  go_wp2_with fail
  refine (fcut_ok (HR.out.below HB1.out) (HW.out.below HB1.out) (HI.out.below HB1.out) HOK.out HN.out (HT.out.below HB1.out)).mono ?_
  rintro e w2 ⟨rfl, hb⟩
  rw [HC1.out, HC2.out]
  have HB2 := Lib.hid (HB1.out.trans (hb.mono HB1.out.size))
  clear hb
  go_wp2_with fail
  refine (rset_any (HR.out.below HB2.out) (HI.out.below HB2.out) h10).mono ?_
  rintro e w3 ⟨rfl, rfl⟩
  rw [HIN.out]
  go_wp2_with fail
  refine (lives_any w2 (HT.out.below HB2.out)).mono ?_
  rintro e w3 ⟨rfl, hb⟩
  have HB3 := Lib.hid (HB2.out.trans (hb.mono HB2.out.size))
  clear hb
  go_wp2_with fail
  go_ret
  exact ⟨rfl, HB3.out⟩
theorem least_le_cut (rs : List (Int × Int)) (ws : List FW) (l : List Int) (hn : (ifsOf rs).Nodup) : leastZ rs ws ≤ cutZ rs ws (waysTo (ifsOf rs) l) := leastTo_le rs ws _ (waysTo_lt2 hn l)
set_option maxHeartbeats 1000000 in
theorem cuts_in (hT : TzAt w) (hr : RoomsIn w A rs) (hw : WantsIn w A' ws) (hl : IntsIn w A2 l) (hb : largeB ws = false) (hok : okR rs = true) (h50 : ¬ 50 < l.length) (hin : inAll (ifsOf rs) l = true) :
    Calls Tryd.prog 4 #[.slice A rs.length c, .slice A' ws.length c', .slice A2 l.length c2] w fun e w' => e = .returned (.bool true) ∧ Below w.heap.size w w' := by
  have HL := Lib.hid (large_any (c' := c') hw)
  rw [hb] at HL
  have HT := Lib.hid hT
  have HR := Lib.hid hr
  have HW := Lib.hid hw
  have HI := Lib.hid hl
  have HOK := Lib.hid hok
  have h10 := okR_len hok
  have HN := Lib.hid (show ws.length ≤ 1024 by have := large_len hb; omega)
  have HC1 := Lib.hid (show cutV rs (ws.map WV.fw) l = cutZ rs (ws.map WV.fw) (waysTo (ifsOf rs) l) by simp [cutV, hin])
  have HC2 := Lib.hid (show cutE rs l = 0 by simp [cutE, hin])
  have HC3 := Lib.hid (show setV (ifsOf rs) l = waysTo (ifsOf rs) l by simp [setV, hin])
  have HIN := Lib.hid hin
  have hok2 := hok
  simp only [okR, Bool.and_eq_true, decide_eq_true_eq] at hok2
  have hle := least_le_cut rs (ws.map WV.fw) l hok2.1.2
  have hlt : waysTo (ifsOf rs) l < 1024 := waysTo_lt hok2.1.2 h10 l
  clear hT hr hw hb hok hl hin hok2
  go_enter Tryd.func4, Tryd.ntmps4
  go_wp2_with fail
  refine (HL.out).mono ?_
  rintro e w' ⟨rfl, rfl⟩
  go_wp2_with fail
  refine (rcheck_any A c rs HR.out.len HR.out.rd).mono ?_
  rintro e w1 ⟨rfl, hb⟩
  rw [HOK.out]
  have HB1 := Lib.hid hb
  clear hb
  go_wp2_with fail
  refine (fcut_ok (HR.out.below HB1.out) (HW.out.below HB1.out) (HI.out.below HB1.out) HOK.out HN.out (HT.out.below HB1.out)).mono ?_
  rintro e w2 ⟨rfl, hb⟩
  rw [HC1.out, HC2.out]
  have HB2 := Lib.hid (HB1.out.trans (hb.mono HB1.out.size))
  clear hb
  go_wp2_with fail
  refine (rset_any (HR.out.below HB2.out) (HI.out.below HB2.out) h10).mono ?_
  rintro e w3 ⟨rfl, rfl⟩
  rw [HIN.out, HC3.out]
  go_wp2_with fail
  refine (lives_any w2 (HT.out.below HB2.out)).mono ?_
  rintro e w3 ⟨rfl, hb⟩
  have HB3 := Lib.hid (HB2.out.trans (hb.mono HB2.out.size))
  clear hb
  go_wp2_with fail
  refine (most_ok (HR.out.below HB3.out) (HW.out.below HB3.out) HOK.out HN.out (HT.out.below HB3.out)).mono ?_
  rintro e w4 ⟨rfl, hb⟩
  have HB4 := Lib.hid (HB3.out.trans (hb.mono HB3.out.size))
  clear hb
  go_wp2_with fail
  refine (rcut_any (HR.out.below HB4.out) (HW.out.below HB4.out) h10 _ hlt).mono ?_
  rintro e w5 ⟨rfl, hb⟩
  have HB5 := Lib.hid (HB4.out.trans (hb.mono HB4.out.size))
  clear hb
  go_wp2_with fail
  go_ret
  exact ⟨by simp, HB5.out⟩
theorem cuts_walk (hT : TzAt w) (hr : RoomsIn w A rs) (hw : WantsIn w A' ws) (hl : IntsIn w A2 l) :
    Calls Tryd.prog 4 #[.slice A rs.length c, .slice A' ws.length c', .slice A2 l.length c2] w fun e w' => e = .returned (.bool true) ∧ Below w.heap.size w w' := by
  cases hb : largeB ws with
  | true => exact cuts_large hT hr hw hl (.inl hb)
  | false =>
    cases hok : okR rs with
    | false => exact cuts_large hT hr hw hl (.inr (.inl ⟨hb, hok⟩))
    | true =>
      by_cases h50 : 50 < l.length
      · exact cuts_large hT hr hw hl (.inr (.inr ⟨hb, hok, h50⟩))
      · cases hin : inAll (ifsOf rs) l with
        | true => exact cuts_in hT hr hw hl hb hok h50 hin
        | false => exact cuts_out hT hr hw hl hb hok h50 hin
end
end Go.Proofs.YtpbghlobkdjpiaaDoor
