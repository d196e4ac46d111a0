/-
  Flow, the document's: the number of the least cut. Under: rooms and wants read as data.
-/
import Derived.Test.YtpbghlobkdjpiaaDoorFlowK
namespace Go.Proofs.YtpbghlobkdjpiaaDoor
open Go.ChangeShapes Go.WideShapes Go.ChangeAt Go.RowKit Go.Maps

theorem pow_below {s n : Nat} (h : s < 2 ^ n) (hn : n ≤ 10) : s < 1024 := Nat.lt_of_lt_of_le h (show 2 ^ n ≤ 2 ^ 10 from Nat.pow_le_pow_right (by decide) hn)
set_option maxHeartbeats 1000000 in
theorem rleast_any {w : World} {A A' : Option Addr} {c c' : Nat} {rs : List (Int × Int)} {ws : List WV} (hr : RoomsIn w A rs) (hw : WantsIn w A' ws) (hl10 : rs.length ≤ 10) :
    Calls Tryd.prog 12 #[.slice A rs.length c, .slice A' ws.length c'] w fun e w' => e = .returned (.int .i64 (leastZ rs (ws.map WV.fw))) ∧ Below w.heap.size w w' := by
  have HC := Lib.hid fun (W : World) (hb : Below w.heap.size w W) (s : Nat) (hs : s < 2 ^ rs.length) => rcut_any (c := c) (c' := c') (hr.below hb) (hw.below hb) hl10 s (pow_below hs hl10)
  have hwr := wrap_pow rs.length hl10
  have h210 : 2 ^ rs.length ≤ 2 ^ 10 := Nat.pow_le_pow_right (by decide) hl10
  have HL := Lib.hid (show leastZ rs (ws.map WV.fw) = leastTo rs (ws.map WV.fw) (2 ^ rs.length) from rfl)
  obtain ⟨M, hM⟩ : ∃ M, M = 2 ^ rs.length := ⟨_, rfl⟩
  rw [← hM] at hwr HL HC h210
  clear hr hw hM
  go_enter Tryd.func12, Tryd.ntmps12
  go_wp2_with fail
  go_loopw [5, 6, 7] (fun b i _ wr => ∃ s : Nat, s ≤ M ∧ i = .int .i64 s ∧ b = .int .i64 (leastTo rs (ws.map WV.fw) s) ∧ Below w.heap.size w wr) (fun _ i _ _ => M - (intOf i).toNat)
  case atStart => exact ⟨0, Nat.zero_le _, rfl, rfl, Below.refl _ _⟩
  case round =>
    obtain ⟨s, hs, rfl, rfl, hb⟩ := hrel
    by_cases hsM : s < M
    · have hmin : leastTo rs (ws.map WV.fw) (s + 1) = min (leastTo rs (ws.map WV.fw) s) (cutZ rs (ws.map WV.fw) s) := rfl
      have HM := Lib.hid hmin
      have HCS := Lib.hid (HC.out _ hb s hsM)
      clear hmin
      generalize cutZ rs (ws.map WV.fw) s = z at *
      generalize leastTo rs (ws.map WV.fw) s = y at *
      by_cases hzy : z < y
      · have HE := Lib.hid (show min y z = z by omega)
        go_wp2_with fail
        refine (HCS.out).mono ?_
        rintro e w1 ⟨rfl, hb1⟩
        go_wp2_with fail
        go_roundw
        case rel => exact ⟨s + 1, by omega, by go_num, by rw [HM.out, HE.out], hb.trans (hb1.mono hb.size)⟩
        case measure => simp [intOf]; omega
      · have HE := Lib.hid (show min y z = y by omega)
        go_wp2_with fail
        refine (HCS.out).mono ?_
        rintro e w1 ⟨rfl, hb1⟩
        go_wp2_with fail
        go_roundw
        case rel => exact ⟨s + 1, by omega, by go_num, by rw [HM.out, HE.out], hb.trans (hb1.mono hb.size)⟩
        case measure => simp [intOf]; omega
    · obtain rfl : s = M := by omega
      go_wp2_with fail
      go_ret
      exact ⟨ret_i (by rw [HL.out]), hb⟩
/-- are wants too many to be looked at? -/
def largeB (ws : List WV) : Bool := decide (40 < ws.length) || ws.any fun v => decide (20 < v.ds.length)
theorem large_yes {ws : List WV} {k : Nat} (hk : k < ws.length) (h : 20 < ws[k].ds.length) : largeB ws = true := by
  unfold largeB
  rw [Bool.or_eq_true]
  exact Or.inr (List.any_eq_true.2 ⟨_, List.getElem_mem hk, by simpa using h⟩)
theorem large_not {ws : List WV} (h : ¬ 40 < ws.length) (h2 : ∀ v ∈ ws.take ws.length, ¬ 20 < v.ds.length) : largeB ws = false := by
  rw [List.take_length] at h2
  unfold largeB
  rw [Bool.or_eq_false_iff]
  exact ⟨by simpa using h, List.any_eq_false.2 fun v hv => by simpa using h2 v hv⟩
theorem take_all {α : Type} {p : α → Prop} {l : List α} {k : Nat} (hk : k < l.length) (h : ∀ v ∈ l.take k, p v) (h2 : p l[k]) : ∀ v ∈ l.take (k + 1), p v := by
  intro v hv
  rw [List.take_succ_eq_append_getElem hk, List.mem_append] at hv
  rcases hv with hv | hv
  · exact h v hv
  · simp at hv
    exact hv ▸ h2
theorem large_any {w : World} {A' : Option Addr} {c' : Nat} {ws : List WV} (hw : WantsIn w A' ws) :
    Calls Tryd.prog 6 #[.slice A' ws.length c'] w fun e w' => e = .returned (.bool (largeB ws)) ∧ w = w' := by
  have HW := Lib.hid hw
  have hlen := hw.len
  clear hw
  by_cases h40 : 40 < ws.length
  · have HE := Lib.hid (show largeB ws = true by simp [largeB, h40])
    go_enter Tryd.func6, Tryd.ntmps6
    go_wp2_with fail
    go_ret
    exact ⟨by rw [HE.out] <;> rfl, rfl⟩
  · go_enter Tryd.func6, Tryd.ntmps6
    go_wp2_with fail
    go_loop [3] (fun i => ∃ k : Nat, k ≤ ws.length ∧ i = .int .i64 k ∧ ∀ v ∈ ws.take k, ¬ 20 < v.ds.length) (fun i => ws.length - (intOf i).toNat)
    case atStart => exact ⟨0, Nat.zero_le _, rfl, by simp⟩
    case round =>
      obtain ⟨k, hk, rfl, hnot⟩ := hrel
      have HN := Lib.hid hnot
      clear hnot
      by_cases hkl : k < ws.length
      · obtain ⟨b, off, rfl, _, hbw, hrg⟩ := HW.out.rd.rangeAt (sz := 16) (by omega) (fun v hv => by simpa using (HW.out.all v hv).1.size) hkl
        have HY := Lib.hid fun h => large_yes hkl h
        have HT := Lib.hid fun h => take_all hkl HN.out h
        have hv := HW.out.all _ (List.getElem_mem hkl)
        have hd := hv.1.dets
        have hc0 : w.cell? ⟨b, off + k * 16 + 14, none⟩ = some (.slice ws[k].D ws[k].ds.length ws[k].dc) := hrg 14 _ (by simpa using hd)
        have hll := hv.1.len
        clear hd hrg hv
        generalize ws[k] = v at *
        obtain ⟨cs, m, f, D', dc, ds⟩ := v
        simp only at *
        by_cases h20 : 20 < ds.length
        · have HE := Lib.hid (HY.out h20)
          go_wp2_with fail
          go_ret
          exact ⟨by rw [HE.out] <;> rfl, rfl⟩
        · go_wp2_with fail
          go_round
          case rel => exact ⟨k + 1, by omega, by go_num, HT.out h20⟩
          case measure => simp [intOf]; omega
      · obtain rfl : k = ws.length := by omega
        have HE := Lib.hid (large_not h40 HN.out)
        go_wp2_with fail
        go_ret
        exact ⟨by rw [HE.out] <;> rfl, rfl⟩
end Go.Proofs.YtpbghlobkdjpiaaDoor
