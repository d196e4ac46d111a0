/-
  Flow, the document's: the number of a cut, the least one. Under: rooms and wants read as data.
-/
import Derived.Test.YtpbghlobkdjpiaaDoorFlowJ
namespace Go.Proofs.YtpbghlobkdjpiaaDoor
open Go.ChangeShapes Go.WideShapes Go.ChangeAt Go.RowKit Go.Maps

theorem bit_of (set k : Nat) (hset : set < 1024) : bits .and .i64 ((set : Int) / 2 ^ k) 1 = if set.testBit k then 1 else 0 := by
  have e : ((set : Int) / 2 ^ k) = ((set / 2 ^ k : Nat) : Int) := by simp
  have hle : set / 2 ^ k ≤ set := Nat.div_le_self _ _
  have h := bits_and_n (set / 2 ^ k) 1 (by omega) (by decide)
  rw [e, show (1 : Int) = ((1 : Nat) : Int) from rfl, h, Nat.and_one_is_mod, Nat.testBit_eq_decide_div_mod_eq]
  by_cases h1 : set / 2 ^ k % 2 = 1
  · simp [h1]
  · have h0 : set / 2 ^ k % 2 = 0 := by omega
    simp [h0]
theorem wants_take {rs : List (Int × Int)} {set : Nat} {ws : List WV} {k : Nat} (hk : k < ws.length) : wantsOf rs set ((ws.take (k + 1)).map WV.fw) = wantsOf rs set ((ws.take k).map WV.fw) + if crossB rs set ws[k].fw then nearZ ws[k].n else 0 := by
  rw [List.take_succ_eq_append_getElem hk, List.map_append]
  exact wantsOf_snoc _ _ _ _
/-- under way: the wants so far -/
def wSum (rs : List (Int × Int)) (set : Nat) (ws : List WV) (k : Nat) : Int := capZ (roomsTo rs set rs.length + wantsOf rs set ((ws.take k).map WV.fw))
theorem wSum_zero (rs : List (Int × Int)) (set : Nat) (ws : List WV) : wSum rs set ws 0 = capZ (roomsTo rs set rs.length) := by simp [wSum, wantsOf, sumIf]
theorem wSum_all (rs : List (Int × Int)) (set : Nat) (ws : List WV) : wSum rs set ws ws.length = cutZ rs (ws.map WV.fw) set := by simp [wSum, cutZ]
theorem wSum_yes {rs : List (Int × Int)} {set : Nat} {ws : List WV} {k : Nat} (hk : k < ws.length) (h : crossB rs set ws[k].fw = true) : wSum rs set ws (k + 1) = addZ (wSum rs set ws k) ws[k].n := by
  unfold wSum
  rw [wants_take hk, h, if_pos rfl, addZ_cap _ (by have := roomsTo_nonneg rs set rs.length; have := wantsOf_nonneg rs set ((ws.take k).map WV.fw); omega), Int.add_assoc]
theorem wSum_no {rs : List (Int × Int)} {set : Nat} {ws : List WV} {k : Nat} (hk : k < ws.length) (h : crossB rs set ws[k].fw = false) : wSum rs set ws (k + 1) = wSum rs set ws k := by
  unfold wSum
  rw [wants_take hk, h]
  simp
theorem ifAt_at {rs : List (Int × Int)} {k : Nat} (hk : k < rs.length) : rs[k].1 = ifAt rs k := by simp [ifAt, hk]

theorem cells16 {cs : Array Value} (h : cs.size = 16) : ∃ c0 c1 c2 c3 c4 c5 c6 c7 c8 c9 c10 c11 c12 c13 c14 c15, cs = #[c0, c1, c2, c3, c4, c5, c6, c7, c8, c9, c10, c11, c12, c13, c14, c15] := by
  obtain ⟨l⟩ := cs
  match l, h with
  | [c0, c1, c2, c3, c4, c5, c6, c7, c8, c9, c10, c11, c12, c13, c14, c15], _ => exact ⟨_, _, _, _, _, _, _, _, _, _, _, _, _, _, _, _, rfl⟩
theorem range16 {W : World} {b o : Nat} {c0 c1 c2 c3 c4 c5 c6 c7 c8 c9 c10 c11 c12 c13 c14 c15 : Value} (h : W.rangeAt b o [c0, c1, c2, c3, c4, c5, c6, c7, c8, c9, c10, c11, c12, c13, c14, c15]) : W.cell? ⟨b, o, none⟩ = some c0 ∧ W.cell? ⟨b, o + 1, none⟩ = some c1 ∧ W.cell? ⟨b, o + 2, none⟩ = some c2 ∧ W.cell? ⟨b, o + 3, none⟩ = some c3 ∧ W.cell? ⟨b, o + 4, none⟩ = some c4 ∧ W.cell? ⟨b, o + 5, none⟩ = some c5 ∧ W.cell? ⟨b, o + 6, none⟩ = some c6 ∧ W.cell? ⟨b, o + 7, none⟩ = some c7 ∧ W.cell? ⟨b, o + 8, none⟩ = some c8 ∧ W.cell? ⟨b, o + 9, none⟩ = some c9 ∧ W.cell? ⟨b, o + 10, none⟩ = some c10 ∧ W.cell? ⟨b, o + 11, none⟩ = some c11 ∧ W.cell? ⟨b, o + 12, none⟩ = some c12 ∧ W.cell? ⟨b, o + 13, none⟩ = some c13 ∧ W.cell? ⟨b, o + 14, none⟩ = some c14 ∧ W.cell? ⟨b, o + 15, none⟩ = some c15 :=
  ⟨h 0 _ rfl, h 1 _ rfl, h 2 _ rfl, h 3 _ rfl, h 4 _ rfl, h 5 _ rfl, h 6 _ rfl, h 7 _ rfl, h 8 _ rfl, h 9 _ rfl, h 10 _ rfl, h 11 _ rfl, h 12 _ rfl, h 13 _ rfl, h 14 _ rfl, h 15 _ rfl⟩

set_option maxHeartbeats 4000000 in
theorem rcut_any {w : World} {A A' : Option Addr} {c c' : Nat} {rs : List (Int × Int)} {ws : List WV} (hr : RoomsIn w A rs) (hw : WantsIn w A' ws) (hl10 : rs.length ≤ 10) (set : Nat) (hset : set < 1024) :
    Calls Tryd.prog 17 #[.slice A rs.length c, .slice A' ws.length c', .int .i64 set] w fun e w' => e = .returned (.int .i64 (cutZ rs (ws.map WV.fw) set)) ∧ Below w.heap.size w w' := by
  have HR := Lib.hid hr
  have HW := Lib.hid hw
  have hlen := hw.len
  clear hr hw
  go_enter Tryd.func17, Tryd.ntmps17
  go_wp2_with fail
  go_loop [7, 8] (fun n i => ∃ k : Nat, k ≤ rs.length ∧ i = .int .i64 k ∧ n = .int .i64 (capZ (roomsTo rs set k))) (fun _ i => rs.length - (intOf i).toNat)
  case atStart => exact ⟨0, Nat.zero_le _, rfl, by simp [roomsTo, sumIf, capZ_zero]⟩
  case round =>
    obtain ⟨k, hk, rfl, rfl⟩ := hrel
    by_cases hkl : k < rs.length
    · obtain ⟨b, off, rfl, hbw, hc0, hc1⟩ := room_at HR.out.rd hkl
      have HS := Lib.hid (roomsTo_succ rs set k)
      have hbit := bit_of set k hset
      rw [roomAt_eq hkl] at hc1
      clear hc0
      cases htb : set.testBit k with
      | true =>
        rw [htb, if_pos rfl] at hbit
        rw [htb, if_pos rfl] at HS
        have HA := Lib.hid (addZ_cap (roomAt rs k) (roomsTo_nonneg rs set k))
        clear htb
        go_wp2_with (go_at_call 18; refine (radd_any _ _ _).mono ?_; rintro e w' ⟨rfl, rfl⟩)
        go_round
        case rel => exact ⟨k + 1, by omega, by go_num, by rw [HS.out, ← HA.out]⟩
        case measure => simp [intOf]; omega
      | false =>
        rw [htb] at hbit
        rw [htb] at HS
        simp only [Bool.false_eq_true, if_false] at hbit
        clear htb
        go_wp2_with fail
        go_round
        case rel => exact ⟨k + 1, by omega, by go_num, by rw [HS.out]; simp⟩
        case measure => simp [intOf]; omega
    · obtain rfl : k = rs.length := by omega
      go_wp2_with fail
      go_loopw [7, 9] (fun n i wr => ∃ k : Nat, k ≤ ws.length ∧ i = .int .i64 k ∧ n = .int .i64 (wSum rs set ws k) ∧ Below w.heap.size w wr) (fun _ i _ => ws.length - (intOf i).toNat)
      case atStart => exact ⟨0, Nat.zero_le _, rfl, by rw [wSum_zero], Below.refl _ _⟩
      case round =>
        obtain ⟨k, hk, rfl, rfl, hb⟩ := hrel
        by_cases hkl : k < ws.length
        · obtain ⟨b, off, rfl, _, hbw, hrg⟩ := HW.out.rd.rangeAt (sz := 16) (by omega) (fun v hv => by simpa using (HW.out.all v hv).1.size) hkl
          have HY := Lib.hid (wSum_yes (rs := rs) (set := set) hkl)
          have HNO := Lib.hid (wSum_no (rs := rs) (set := set) hkl)
          have HV := Lib.hid (HW.out.all _ (List.getElem_mem hkl))
          generalize ws[k] = v at *
          have hnum := HV.out.1.num
          have hsz := HV.out.1.size
          have hi := (show (Tryd.prog.info? 55).map (·.size) = some v.cs.toList.length by rw [Array.length_toList, hsz]; kernel_rfl)
          have hRG := Lib.hid hrg
          clear hrg hsz
          obtain ⟨wo, rfl⟩ : ∃ wo : World, wo = wr := ⟨_, rfl⟩
          have HI := Lib.hid hi
          clear hi
          go_wp2_with fail
          go_loopw [10, 11] (fun o i w2 => ∃ j : Nat, j ≤ rs.length ∧ i = .int .i64 j ∧ o = .bool (crossTo rs set v.fw j) ∧ Below w.heap.size w w2) (fun _ i _ => rs.length - (intOf i).toNat)
          case atStart => exact ⟨0, Nat.zero_le _, rfl, rfl, hb⟩
          case round =>
            obtain ⟨j, hj, rfl, rfl, hb2⟩ := hrel
            by_cases hjl : j < rs.length
            · obtain ⟨b', off', rfl, hbw', hc0, _⟩ := room_at HR.out.rd hjl
              have hcW := (hb2.cell (p := ⟨b', off' + j * 2, none⟩) hbw').trans hc0
              rw [ifAt_at hjl] at hcW
              clear hc0
              have HS := Lib.hid (crossTo_succ rs set v.fw j)
              have hbit := bit_of set j hset
              cases hcr : crossTo rs set v.fw j with
              | true =>
                have HCR := Lib.hid (show crossTo rs set v.fw (j + 1) = true by rw [HS.out, hcr]; rfl)
                clear hcr hbit
                go_wp2_with fail
                go_quiet (fail)
                go_wp2_with fail
                go_roundw
                case rel => exact ⟨j + 1, by omega, by go_num, by rw [HCR.out], below_drewN' hb2 _⟩
                case measure => simp [intOf]; omega
              | false =>
                cases htb : set.testBit j with
                | true =>
                  rw [htb, if_pos rfl] at hbit
                  have HCR := Lib.hid (show crossTo rs set v.fw (j + 1) = false by rw [HS.out, hcr, htb]; rfl)
                  clear hcr htb
                  go_wp2_with fail
                  go_quiet (fail)
                  go_wp2_with fail
                  go_roundw
                  case rel => exact ⟨j + 1, by omega, by go_num, by rw [HCR.out], below_drewN' hb2 _⟩
                  case measure => simp [intOf]; omega
                | false =>
                  rw [htb] at hbit
                  simp only [Bool.false_eq_true, if_false] at hbit
                  have HCR := Lib.hid (show crossTo rs set v.fw (j + 1) = v.fw.via (ifAt rs j) by rw [HS.out, hcr, htb]; rfl)
                  have hrg : wr.rangeAt b (off + k * 16) v.cs.toList := fun i u hu => (hb2.cell (p := ⟨b, off + k * 16 + i, none⟩) hbw).trans (hRG.out i u hu)
                  have hu := Tryd.underlying55
                  have HWAY := Lib.hid fun (_ : Unit) => way_any (w := wr.drew) v HV.out.1 (HV.out.2.below hb2.drew (fun _ h _ => h)) (ifAt rs j)
                  have hsz := HV.out.1.size
                  have HKA := Lib.hid hrg
                  have HKB := Lib.hid fun (W : World) (hW : Below wr.drew.heap.size wr.drew W) => (show W.rangeAt b (off + k * 16) v.cs.toList from fun i u hu => ((hb2.drew.trans (hW.mono hb2.size)).cell (p := ⟨b, off + k * 16 + i, none⟩) hbw).trans (hRG.out i u hu))
                  obtain ⟨c0, c1, c2, c3, c4, c5, c6, c7, c8, c9, c10, c11, c12, c13, c14, c15, hcs⟩ := cells16 hsz
                  rw [hcs] at HKA HKB HWAY
                  have hcells := range16 HKA.out
                  have HK := Lib.hid fun (W : World) (hW : Below wr.drew.heap.size wr.drew W) => (show W.cell? ⟨b, off + k * 16, none⟩ = some c0 ∧ W.cell? ⟨b, off + k * 16 + 1, none⟩ = some c1 ∧ W.cell? ⟨b, off + k * 16 + 2, none⟩ = some c2 ∧ W.cell? ⟨b, off + k * 16 + 3, none⟩ = some c3 ∧ W.cell? ⟨b, off + k * 16 + 4, none⟩ = some c4 ∧ W.cell? ⟨b, off + k * 16 + 5, none⟩ = some c5 ∧ W.cell? ⟨b, off + k * 16 + 6, none⟩ = some c6 ∧ W.cell? ⟨b, off + k * 16 + 7, none⟩ = some c7 ∧ W.cell? ⟨b, off + k * 16 + 8, none⟩ = some c8 ∧ W.cell? ⟨b, off + k * 16 + 9, none⟩ = some c9 ∧ W.cell? ⟨b, off + k * 16 + 10, none⟩ = some c10 ∧ W.cell? ⟨b, off + k * 16 + 11, none⟩ = some c11 ∧ W.cell? ⟨b, off + k * 16 + 12, none⟩ = some c12 ∧ W.cell? ⟨b, off + k * 16 + 13, none⟩ = some c13 ∧ W.cell? ⟨b, off + k * 16 + 14, none⟩ = some c14 ∧ W.cell? ⟨b, off + k * 16 + 15, none⟩ = some c15 ∧ W.cell? ⟨b', off' + j * 2, none⟩ = some (.int .i64 (ifAt rs j)) from by
                    have h1 := range16 (HKB.out W hW)
                    have h2 := (hW.cell (p := ⟨b', off' + j * 2, none⟩) (block_lt_of_cell hcW)).trans hcW
                    exact ⟨h1.1, h1.2.1, h1.2.2.1, h1.2.2.2.1, h1.2.2.2.2.1, h1.2.2.2.2.2.1, h1.2.2.2.2.2.2.1, h1.2.2.2.2.2.2.2.1, h1.2.2.2.2.2.2.2.2.1, h1.2.2.2.2.2.2.2.2.2.1, h1.2.2.2.2.2.2.2.2.2.2.1, h1.2.2.2.2.2.2.2.2.2.2.2.1, h1.2.2.2.2.2.2.2.2.2.2.2.2.1, h1.2.2.2.2.2.2.2.2.2.2.2.2.2.1, h1.2.2.2.2.2.2.2.2.2.2.2.2.2.2.1, h1.2.2.2.2.2.2.2.2.2.2.2.2.2.2.2, h2⟩)
                  clear hcr htb HKB HKA hrg hnum hsz
                  go_wp2_with fail
                  go_region_held3 (fun W => W.cell? ⟨b, off + k * 16, none⟩ = some c0 ∧ W.cell? ⟨b, off + k * 16 + 1, none⟩ = some c1 ∧ W.cell? ⟨b, off + k * 16 + 2, none⟩ = some c2 ∧ W.cell? ⟨b, off + k * 16 + 3, none⟩ = some c3 ∧ W.cell? ⟨b, off + k * 16 + 4, none⟩ = some c4 ∧ W.cell? ⟨b, off + k * 16 + 5, none⟩ = some c5 ∧ W.cell? ⟨b, off + k * 16 + 6, none⟩ = some c6 ∧ W.cell? ⟨b, off + k * 16 + 7, none⟩ = some c7 ∧ W.cell? ⟨b, off + k * 16 + 8, none⟩ = some c8 ∧ W.cell? ⟨b, off + k * 16 + 9, none⟩ = some c9 ∧ W.cell? ⟨b, off + k * 16 + 10, none⟩ = some c10 ∧ W.cell? ⟨b, off + k * 16 + 11, none⟩ = some c11 ∧ W.cell? ⟨b, off + k * 16 + 12, none⟩ = some c12 ∧ W.cell? ⟨b, off + k * 16 + 13, none⟩ = some c13 ∧ W.cell? ⟨b, off + k * 16 + 14, none⟩ = some c14 ∧ W.cell? ⟨b, off + k * 16 + 15, none⟩ = some c15 ∧ W.cell? ⟨b', off' + j * 2, none⟩ = some (.int .i64 (ifAt rs j))) (first | exact ⟨hcells.1, hcells.2.1, hcells.2.2.1, hcells.2.2.2.1, hcells.2.2.2.2.1, hcells.2.2.2.2.2.1, hcells.2.2.2.2.2.2.1, hcells.2.2.2.2.2.2.2.1, hcells.2.2.2.2.2.2.2.2.1, hcells.2.2.2.2.2.2.2.2.2.1, hcells.2.2.2.2.2.2.2.2.2.2.1, hcells.2.2.2.2.2.2.2.2.2.2.2.1, hcells.2.2.2.2.2.2.2.2.2.2.2.2.1, hcells.2.2.2.2.2.2.2.2.2.2.2.2.2.1, hcells.2.2.2.2.2.2.2.2.2.2.2.2.2.2.1, hcells.2.2.2.2.2.2.2.2.2.2.2.2.2.2.2, hcW⟩ | exact HK.out _ hb3 | go_keep) ((go_at_call 29; refine (HWAY.out ()).mono ?_; rintro e w3 ⟨rfl, hb3⟩))
                  go_wp2_with fail
                  go_roundw
                  case rel => exact ⟨j + 1, by omega, by go_num, by rw [HCR.out], hb2.drew.trans (hb3.mono hb2.size)⟩
                  case measure => simp [intOf]; omega
            · obtain rfl : j = rs.length := by omega
              have hn2 : wr.cell? ⟨b, off + k * 16 + 2, none⟩ = some (.int .i64 v.n) := (hb2.cell (p := ⟨b, off + k * 16 + 2, none⟩) hbw).trans (hRG.out 2 _ (by simpa using hnum))
              cases hcr : crossTo rs set v.fw rs.length with
              | true =>
                have HZ := Lib.hid (HY.out hcr)
                clear hcr
                go_wp2_with (go_at_call 18; refine (radd_any _ _ _).mono ?_; rintro e w' ⟨rfl, rfl⟩)
                go_roundw
                case rel => exact ⟨k + 1, by omega, by go_num, by rw [HZ.out], hb2⟩
                case measure => simp [intOf]; omega
              | false =>
                have HZ := Lib.hid (HNO.out hcr)
                clear hcr
                go_wp2_with fail
                go_roundw
                case rel => exact ⟨k + 1, by omega, by go_num, by rw [HZ.out], hb2⟩
                case measure => simp [intOf]; omega
        · obtain rfl : k = ws.length := by omega
          have HE := Lib.hid (wSum_all rs set ws)
          go_wp2_with fail
          go_ret
          exact ⟨ret_i (by rw [HE.out]), hb⟩
end Go.Proofs.YtpbghlobkdjpiaaDoor
