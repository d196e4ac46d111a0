/-
  Flow, the document's: an interface's place, whether a want has a way, the sum of wants, a set. Under: rooms and wants read as data.
-/
import Derived.Test.YtpbghlobkdjpiaaDoorFlowI
namespace Go.Proofs.YtpbghlobkdjpiaaDoor
open Go.ChangeShapes Go.WideShapes Go.ChangeAt Go.RowKit Go.Maps

def placeZ (ifs : List Int) (x : Int) : Int := if x ∈ ifs then (ifs.idxOf x : Int) else -1
theorem placeZ_at {rs : List (Int × Int)} {k : Nat} (hk : k < rs.length) (h : rs[k].1 ∉ (ifsOf rs).take k) : placeZ (ifsOf rs) rs[k].1 = k := by
  have h1 : ifsOf rs = (ifsOf rs).take k ++ (rs[k].1 :: (ifsOf rs).drop (k + 1)) := by
    rw [← List.singleton_append, ← List.append_assoc, ← ifs_take rs k hk, List.take_append_drop]
  have h2 : rs[k].1 ∈ ifsOf rs := by rw [h1]; simp
  have h3 : (ifsOf rs).idxOf rs[k].1 = k := by
    rw [h1, List.idxOf_append, if_neg h]
    simp [ifsOf]
    omega
  unfold placeZ
  rw [if_pos h2, h3]
theorem placeZ_no {rs : List (Int × Int)} {x : Int} (h : x ∉ ifsOf rs) : placeZ (ifsOf rs) x = -1 := if_neg h

theorem place_any {w : World} {A : Option Addr} {c : Nat} {rs : List (Int × Int)} (hr : RoomsIn w A rs) (x : Int) :
    Calls Tryd.prog 28 #[.slice A rs.length c, .int .i64 x] w fun e w' => e = .returned (.int .i64 (placeZ (ifsOf rs) x)) ∧ w = w' := by
  have hlen := hr.len
  have HR := Lib.hid hr
  clear hr
  go_enter Tryd.func28, Tryd.ntmps28
  go_wp2_with fail
  go_loop [5] (fun i => ∃ k : Nat, k ≤ rs.length ∧ i = .int .i64 k ∧ x ∉ (ifsOf rs).take k) (fun i => rs.length - (intOf i).toNat)
  case atStart => exact ⟨0, Nat.zero_le _, rfl, by simp⟩
  case round =>
    obtain ⟨k, hk, rfl, hnot⟩ := hrel
    have HN := Lib.hid hnot
    clear hnot
    by_cases hkl : k < rs.length
    · obtain ⟨b, off, rfl, hbw, hc0, _⟩ := room_at HR.out.rd hkl
      have HP := Lib.hid (placeZ_at hkl)
      have HT := Lib.hid (ifs_take rs k hkl)
      generalize rs[k] = y at *
      obtain ⟨a, n⟩ := y
      simp only at *
      by_cases hax : a = x
      · subst hax
        have HE := Lib.hid (HP.out HN.out)
        go_wp2_with fail
        go_ret
        exact ⟨ret_i (by rw [HE.out]), rfl⟩
      · have hax2 : (a == x) = false := by simpa using hax
        go_wp2_with fail
        go_round
        case rel => exact ⟨k + 1, by omega, by go_num, by rw [HT.out, List.mem_append]; rintro (h | h); exact HN.out h; simp at h; exact hax h.symm⟩
        case measure => simp [intOf]; omega
    · obtain rfl : k = rs.length := by omega
      have HE := Lib.hid (placeZ_no (rs := rs) (x := x) (by have := HN.out; rwa [List.take_of_length_le (by simp [ifsOf])] at this))
      go_wp2_with fail
      go_ret
      exact ⟨ret_i (by rw [HE.out]), rfl⟩

theorem via_first {v : WV} {x : Int} (h : v.f = x) : v.fw.via x = true := by simp [FW.via, WV.fw, h]
theorem via_at {v : WV} {x : Int} {k : Nat} (hk : k < v.ds.length) (h : v.ds[k].f = x) : v.fw.via x = true := by
  unfold FW.via WV.fw
  rw [List.contains_iff_mem]
  exact List.mem_cons_of_mem _ (List.mem_map.2 ⟨_, List.getElem_mem hk, h⟩)
theorem via_no {v : WV} {x : Int} (h : ¬ v.f = x) (h2 : x ∉ v.ds.map OV.f) : v.fw.via x = false := by
  cases hv : v.fw.via x with
  | false => rfl
  | true =>
    unfold FW.via WV.fw at hv
    rw [List.contains_iff_mem, List.mem_cons] at hv
    rcases hv with e | e
    · exact absurd e.symm h
    · exact absurd e h2

set_option maxHeartbeats 1000000 in
theorem way_any {w : World} (v : WV) (hv : v.ok) (hr : Reads w (fun _ => True) v.D (optCells v.ds)) (x : Int) :
    Calls Tryd.prog 29 #[.agg v.cs, .int .i64 x] w fun e w' => e = .returned (.bool (v.fw.via x)) ∧ Below w.heap.size w w' := by
  have HF := Lib.hid (via_first (v := v) (x := x))
  have HA := Lib.hid fun k (hk : k < v.ds.length) => via_at (v := v) (x := x) hk
  have HNO := Lib.hid (via_no (v := v) (x := x))
  generalize v.fw.via x = res at *
  obtain ⟨cs, m, f, D', dc, ds⟩ := v
  obtain ⟨hsz, hnum, hface, hdets, hwf, hone, hall, hlen⟩ := hv
  simp only at *
  have HL := Lib.hid (optsLen hall)
  have HAL := Lib.hid hall
  have HR := Lib.hid hr
  clear hsz hone hnum hall hwf hr
  have hb1 := below_a1 w (.cells cs 55)
  by_cases hfx : f = x
  · have HE := Lib.hid (HF.out hfx)
    subst hfx
    go_enter Tryd.func29, Tryd.ntmps29
    go_wp2_with fail
    go_ret
    exact ⟨by rw [HE.out]; rfl, hb1⟩
  · have hfx2 : (f == x) = false := by simpa using hfx
    go_enter Tryd.func29, Tryd.ntmps29
    go_wp2_with fail
    go_loop [5] (fun i => ∃ k : Nat, k ≤ ds.length ∧ i = .int .i64 k ∧ x ∉ (ds.map OV.f).take k) (fun i => ds.length - (intOf i).toNat)
    case atStart => exact ⟨0, Nat.zero_le _, rfl, by simp⟩
    case round =>
      obtain ⟨k, hk, rfl, hnot⟩ := hrel
      have HN := Lib.hid hnot
      clear hnot
      by_cases hkl : k < ds.length
      · obtain ⟨b, off, rfl, _, hbw, hrg⟩ := HR.out.rangeAt (by omega) HL.out hkl
        have HK := Lib.hid (HA.out k hkl)
        have HT := Lib.hid (show (ds.map OV.f).take (k + 1) = (ds.map OV.f).take k ++ [ds[k].f] by rw [List.take_succ_eq_append_getElem (by simpa using hkl)]; simp)
        have ho := (HAL.out _ (List.getElem_mem hkl)).face
        have hc0 : w.cell? ⟨b, off + k * 11 + 10, none⟩ = some (.int .i64 ds[k].f) := hrg 10 _ (by simpa using ho)
        have hc1 : (w.alloc (.cells cs 55)).cell? ⟨b, off + k * 11 + 10, none⟩ = some (.int .i64 ds[k].f) := (hb1.cell (p := ⟨b, off + k * 11 + 10, none⟩) hbw).trans hc0
        clear hrg ho hc0
        generalize ds[k].f = a at *
        by_cases hax : a = x
        · have HE := Lib.hid (HK.out hax)
          subst hax
          go_wp2_with fail
          go_ret
          exact ⟨by rw [HE.out]; rfl, hb1⟩
        · have hax2 : (a == x) = false := by simpa using hax
          go_wp2_with fail
          go_round
          case rel => exact ⟨k + 1, by omega, by go_num, by rw [HT.out, List.mem_append]; rintro (h | h); exact HN.out h; simp at h; exact hax h.symm⟩
          case measure => simp [intOf]; omega
      · obtain rfl : k = ds.length := by omega
        have HE := Lib.hid (HNO.out hfx (by have := HN.out; rwa [List.take_of_length_le (by simp)] at this))
        go_wp2_with fail
        go_ret
        exact ⟨by rw [HE.out]; rfl, hb1⟩

set_option maxHeartbeats 1000000 in
theorem rsum_any {w : World} {A' : Option Addr} {c' : Nat} {ws : List WV} (hw : WantsIn w A' ws) :
    Calls Tryd.prog 14 #[.slice A' ws.length c'] w fun e w' => e = .returned (.int .i64 (sumAll ws)) ∧ w = w' := by
  have HW := Lib.hid hw
  have hlen := hw.len
  clear hw
  go_enter Tryd.func14, Tryd.ntmps14
  go_wp2_with fail
  go_loop [3, 4] (fun s i => ∃ k : Nat, k ≤ ws.length ∧ i = .int .i64 k ∧ s = .int .i64 (sumTo ws k)) (fun _ i => ws.length - (intOf i).toNat)
  case atStart => exact ⟨0, Nat.zero_le _, rfl, rfl⟩
  case round =>
    obtain ⟨k, hk, rfl, rfl⟩ := hrel
    by_cases hkl : k < ws.length
    · obtain ⟨b, off, rfl, _, hbw, hrg⟩ := HW.out.rd.rangeAt (sz := 16) (by omega) (fun v hv => by simpa using (HW.out.all v hv).1.size) hkl
      have HS := Lib.hid (sumTo_succ hkl)
      have hnum := (HW.out.all _ (List.getElem_mem hkl)).1.num
      have hc0 : w.cell? ⟨b, off + k * 16 + 2, none⟩ = some (.int .i64 ws[k].n) := hrg 2 _ (by simpa using hnum)
      clear hrg hnum
      generalize ws[k].n = n at *
      go_wp2_with (go_at_call 18; refine (radd_any _ _ _).mono ?_; rintro e w' ⟨rfl, rfl⟩)
      go_round
      case rel => exact ⟨k + 1, by omega, by go_num, by rw [HS.out]⟩
      case measure => simp [intOf]; omega
    · obtain rfl : k = ws.length := by omega
      go_wp2_with fail
      go_ret
      exact ⟨rfl, rfl⟩

def setV (ifs l : List Int) : Int := if inAll ifs l then (waysTo ifs l : Int) else 0
theorem ret_ib {a b : Int} {x y : Bool} (h : a = b) (k : x = y) : Ending.returned (.tuple #[.int .i64 a, .bool x]) = .returned (.tuple #[.int .i64 b, .bool y]) := by rw [h, k]
set_option maxHeartbeats 1000000 in
theorem rset_any {w : World} {A A2 : Option Addr} {c c2 : Nat} {rs : List (Int × Int)} {l : List Int} (hr : RoomsIn w A rs) (hl : IntsIn w A2 l) (hl10 : rs.length ≤ 10) :
    Calls Tryd.prog 16 #[.slice A rs.length c, .slice A2 l.length c2] w fun e w' => e = .returned (.tuple #[.int .i64 (setV (ifsOf rs) l), .bool (inAll (ifsOf rs) l)]) ∧ w = w' := by
  have HR := Lib.hid hr
  have HL := Lib.hid hl
  have hlen := hl.len
  clear hr hl
  go_enter Tryd.func16, Tryd.ntmps16
  go_wp2_with fail
  go_loop [6, 7] (fun s i => ∃ k : Nat, k ≤ l.length ∧ i = .int .i64 k ∧ s = .int .i64 (waysTo (ifsOf rs) (l.take k)) ∧ inAll (ifsOf rs) (l.take k) = true) (fun _ i => l.length - (intOf i).toNat)
  case atStart => exact ⟨0, Nat.zero_le _, rfl, rfl, rfl⟩
  case round =>
    obtain ⟨k, hk, rfl, rfl, hin⟩ := hrel
    have HI := Lib.hid hin
    clear hin
    by_cases hkl : k < l.length
    · obtain ⟨b, off, rfl, _, hbw, hck⟩ := HL.out.rd.at_ (k := k) (by simpa using hkl)
      simp only [List.getElem_map] at hck
      have HNI := Lib.hid (inAll_not (ifs := ifsOf rs) hkl)
      have HX := Lib.hid (show waysTo (ifsOf rs) (l.take (k + 1)) = waysTo (ifsOf rs) (l.take k) ||| bitN (ifsOf rs) l[k] by rw [List.take_succ_eq_append_getElem hkl, waysTo_snoc])
      have HIS := Lib.hid (show inAll (ifsOf rs) (l.take (k + 1)) = (inAll (ifsOf rs) (l.take k) && decide (l[k] ∈ ifsOf rs)) by rw [List.take_succ_eq_append_getElem hkl]; unfold inAll; rw [List.all_append]; simp only [List.all_cons, List.all_nil, Bool.and_true])
      generalize l[k] = x at *
      have hw1 := waysTo_small (ifsOf rs) (by simpa [ifsOf] using hl10) (l.take k)
      have HP := Lib.hid (place_any (c := c) HR.out x)
      by_cases hxi : x ∈ ifsOf rs
      · have hp : placeZ (ifsOf rs) x = ((ifsOf rs).idxOf x : Int) := if_pos hxi
        have hbn : bitN (ifsOf rs) x = 2 ^ (ifsOf rs).idxOf x := if_pos hxi
        have hi := List.idxOf_lt_length_of_mem hxi
        rw [show (ifsOf rs).length = rs.length by simp [ifsOf]] at hi
        have hw2 := bitN_lt (ifsOf rs) (by simpa [ifsOf] using hl10) x
        have HXI := Lib.hid hxi
        have HPP := Lib.hid hp
        clear hxi hp
        generalize (ifsOf rs).idxOf x = i at *
        have hsh := wrap_pow i (by omega)
        rw [← hbn] at hsh
        have HBN := Lib.hid hbn
        clear hbn
        have hor := bits_or_n (waysTo (ifsOf rs) (l.take k)) (bitN (ifsOf rs) x) (by omega) (by omega)
        go_wp2_with fail
        refine (HP.out).mono ?_
        rintro e w' ⟨rfl, rfl⟩
        rw [HPP.out]
        go_wp2_with fail
        go_round
        case rel => exact ⟨k + 1, by omega, by go_num, by rw [HX.out], by rw [HIS.out, HI.out, decide_eq_true HXI.out]; rfl⟩
        case measure => simp [intOf]; omega
      · have HE := Lib.hid (HNI.out hxi)
        have HZ := Lib.hid (show placeZ (ifsOf rs) x = -1 from if_neg hxi)
        clear hxi
        go_wp2_with fail
        refine (HP.out).mono ?_
        rintro e w' ⟨rfl, rfl⟩
        rw [HZ.out]
        go_wp2_with fail
        go_ret2
        exact ⟨ret_ib (by simp [setV, HE.out]) (by rw [HE.out]), rfl⟩
    · obtain rfl : k = l.length := by omega
      have hin := HI.out
      rw [List.take_length] at hin
      have HV := Lib.hid (show setV (ifsOf rs) l = waysTo (ifsOf rs) l by simp [setV, hin])
      have HE := Lib.hid hin
      clear hin
      go_wp2_with fail
      go_ret2
      exact ⟨ret_ib (by rw [HV.out]) (by rw [HE.out]), rfl⟩
end Go.Proofs.YtpbghlobkdjpiaaDoor
