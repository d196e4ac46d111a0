/-
  Flow: may rooms be, the document's Check; an interface's place. No condition but that the rooms read as data.
-/
import Derived.Test.YtpbghlobkdjpiaaDoorFlowC
namespace Go.Proofs.YtpbghlobkdjpiaaDoor
open Go.ChangeShapes Go.WideShapes Go.ChangeAt Go.RowKit Go.Maps

/-- the cells of a room -/
theorem room_at {F : Nat → Prop} {w : World} {A : Option Addr} {rs : List (Int × Int)} (hr : Reads w F A (roomCells rs)) {k : Nat} (hk : k < rs.length) :
    ∃ b off, A = some ⟨b, off, none⟩ ∧ b < w.heap.size ∧ w.cell? ⟨b, off + k * 2, none⟩ = some (.int .i64 rs[k].1) ∧ w.cell? ⟨b, off + k * 2 + 1, none⟩ = some (.int .i64 rs[k].2) := by
  obtain ⟨b, off, hA, _, hbw, hrg⟩ := hr.rangeAt (sz := 2) (by omega) (fun _ _ => rfl) hk
  exact ⟨b, off, hA, hbw, hrg 0 _ rfl, hrg 1 _ rfl⟩
theorem goodR_iff (a n : Int) : goodR (a, n) = true ↔ ¬ a < 0 ∧ ¬ n < 0 ∧ ¬ (9007199254740991 < n) := by
  unfold goodR nearZ
  simp only [Bool.and_eq_true, decide_eq_true_eq]
  omega
theorem okR_bad {rs : List (Int × Int)} {k : Nat} (hk : k < rs.length) (h : goodR rs[k] = false) : okR rs = false := by
  have : rs.all goodR = false := List.all_eq_false.2 ⟨rs[k], List.getElem_mem hk, by rw [h]; decide⟩
  simp [okR, this]
theorem okR_dup {rs : List (Int × Int)} {k m : Nat} (hk : k < rs.length) (hm : m < k) (h : (rs[m]'(by omega)).1 = rs[k].1) : okR rs = false := by
  have : ¬ (ifsOf rs).Nodup := fun hn => by
    have h1 := (List.getElem_inj (h₀ := by simp [ifsOf]; omega) (h₁ := by simpa [ifsOf] using hk) hn (i := m) (j := k)).1 (by simpa [ifsOf] using h)
    omega
  simp [okR, this]

set_option maxHeartbeats 1000000 in
theorem rcheck_any {F : Nat → Prop} {w : World} (A : Option Addr) (c : Nat) (rs : List (Int × Int)) (hlen : rs.length ≤ 9223372036854775807) (hr : Reads w F A (roomCells rs)) :
    Calls Tryd.prog 10 #[.slice A rs.length c] w fun e w' => e = .returned (.bool (okR rs)) ∧ Below w.heap.size w w' := by
  go_enter Tryd.func10, Tryd.ntmps10
  go_wp2_with fail
  go_loopw [3] (fun i wr => ∃ k : Nat, k ≤ rs.length ∧ k ≤ 11 ∧ i = .int .i64 k ∧ (rs.take k).all goodR = true ∧ ((ifsOf rs).take k).Nodup ∧ Below w.heap.size w wr) (fun i _ => rs.length - (intOf i).toNat)
  case atStart => exact ⟨0, Nat.zero_le _, Nat.zero_le _, rfl, rfl, List.nodup_nil, Below.refl _ _⟩
  case round =>
    obtain ⟨k, hk, hk11, rfl, hgood, hnod, hb⟩ := hrel
    have HG := Lib.hid hgood
    have HN := Lib.hid hnod
    clear hgood hnod
    by_cases hkl : k < rs.length
    · by_cases hk10 : k ≤ 10
      · obtain ⟨b, off, rfl, hbw, hc0, hc1⟩ := room_at hr hkl
        have hc0 := (hb.cell (p := ⟨b, off + k * 2, none⟩) hbw).trans hc0
        have hc1 := (hb.cell (p := ⟨b, off + k * 2 + 1, none⟩) hbw).trans hc1
        have HB := Lib.hid (okR_bad hkl)
        have HD := Lib.hid fun (m : Nat) (hm : m < k) => okR_dup hkl hm
        have HT := Lib.hid (ifs_take rs k hkl)
        have HG2 := Lib.hid (List.take_succ_eq_append_getElem hkl)
        generalize hx : rs[k] = x at *
        clear hx
        obtain ⟨a, n⟩ := x
        simp only at *
        have hgi := Lib.hid (goodR_iff a n)
        by_cases ha : a < 0
        · have HE := Lib.hid (HB.out (by cases h : goodR (a, n) with | false => rfl | true => exact absurd ha ((hgi.out).1 h).1))
          go_wp2_with fail
          go_ret
          exact ⟨by rw [HE.out]; rfl, hb⟩
        · by_cases hn : n < 0
          · have HE := Lib.hid (HB.out (by cases h : goodR (a, n) with | false => rfl | true => exact absurd hn ((hgi.out).1 h).2.1))
            go_wp2_with fail
            go_ret
            exact ⟨by rw [HE.out]; rfl, hb⟩
          · by_cases hn2 : 9007199254740991 < n
            · have HE := Lib.hid (HB.out (by cases h : goodR (a, n) with | false => rfl | true => exact absurd hn2 ((hgi.out).1 h).2.2))
              go_wp2_with fail
              go_ret
              exact ⟨by rw [HE.out]; rfl, hb⟩
            · have HGK := Lib.hid (hgi.out.2 ⟨ha, hn, hn2⟩)
              go_wp2_with fail
              obtain ⟨wo, hwo⟩ : ∃ wo : World, wo = wr := ⟨_, rfl⟩
              go_loopw [4] (fun j w2 => ∃ m : Nat, m ≤ k ∧ j = .int .i64 m ∧ a ∉ (ifsOf rs).take m ∧ Below w.heap.size w w2) (fun j _ => k - (intOf j).toNat)
              case atStart => exact ⟨0, Nat.zero_le _, rfl, by simp, hb⟩
              case round =>
                obtain ⟨m, hm, rfl, hnot, hb2⟩ := hrel
                have HNT := Lib.hid hnot
                clear hnot
                by_cases hmk : m < k
                · have hml : m < rs.length := by omega
                  obtain ⟨b', off', hA', hbw', hm0, _⟩ := room_at hr hml
                  obtain ⟨rfl, rfl⟩ : b' = b ∧ off' = off := by
                    injection hA' with h
                    injection h with h1 h2
                    exact ⟨h1.symm, h2.symm⟩
                  have hk0 := (hb2.cell (p := ⟨b', off' + k * 2, none⟩) hbw).trans ((hb.cell (p := ⟨b', off' + k * 2, none⟩) hbw).symm.trans hc0)
                  have hm0 := (hb2.cell (p := ⟨b', off' + m * 2, none⟩) hbw).trans hm0
                  have HTM := Lib.hid (ifs_take rs m hml)
                  have HDM := Lib.hid (HD.out m hmk)
                  generalize hy : rs[m] = y at *
                  clear hy
                  obtain ⟨a2, n2⟩ := y
                  simp only at *
                  by_cases hae : a2 = a
                  · have HE := Lib.hid (HDM.out hae)
                    subst hae
                    go_wp2_with fail
                    go_quiet (fail)
                    go_wp2_with fail
                    go_ret
                    exact ⟨by rw [HE.out]; rfl, below_drewN' hb2 _⟩
                  · have hae2 : (a2 == a) = false := by simpa using hae
                    go_wp2_with fail
                    go_quiet (fail)
                    go_wp2_with fail
                    go_roundw
                    case rel => exact ⟨m + 1, by omega, by go_num, by rw [HTM.out, List.mem_append]; rintro (h | h); exact HNT.out h; simp at h; exact hae h.symm, below_drewN' hb2 _⟩
                    case measure => simp [intOf]; omega
                · obtain rfl : m = k := by omega
                  go_wp2_with fail
                  go_roundw
                  case rel => exact ⟨m + 1, by omega, by omega, by go_num, by rw [HG2.out, List.all_append, HG.out]; simp [HGK.out], by rw [HT.out, List.nodup_append]; exact ⟨HN.out, by simp, fun x hx y hy e => by simp at hy; subst hy; subst e; exact HNT.out hx⟩, hb2⟩
                  case measure => simp [intOf]; omega
      · have h10 : ¬ rs.length ≤ 10 := by omega
        have HE := Lib.hid (show okR rs = false by simp [okR, h10])
        have hd : decide ((rs.length : Int) ≤ 10) = false := by simp; omega
        clear h10
        go_wp2_with fail
        go_ret
        exact ⟨by rw [HE.out]; rfl, hb⟩
    · obtain rfl : k = rs.length := by omega
      have hall : rs.all goodR = true := by rw [← HG.out, List.take_length]
      have hnd : (ifsOf rs).Nodup := by have := HN.out; rwa [List.take_of_length_le (by simp [ifsOf])] at this
      have HE := Lib.hid (show okR rs = decide ((rs.length : Int) ≤ 10) by simp [okR, hall, hnd]; omega)
      clear hall hnd
      go_wp2_with fail
      go_ret
      exact ⟨by rw [HE.out]; rfl, hb⟩
end Go.Proofs.YtpbghlobkdjpiaaDoor
