/-
  A number's bytes, as the document's Put makes them. No condition but that it fits.
-/
import Derived.Test.YtbmbpcibihddaaaDoorNumPut
namespace Go.Proofs.YtbmbpcibihddaaaDoor
open Go.ChangeShapes Go.WideShapes Go.ChangeAt Go.RowKit

theorem rfill_vb (L : List UInt8) (j : Nat) (h : j < L.length) (u : Value) (hu : u = vb L[j]) : ((List.replicate (j + 1) 0 ++ L.drop (j + 1)).map vb).set j u = (List.replicate j 0 ++ L.drop j).map vb := by
  rw [hu, ← List.map_set]
  congr 1
  rw [List.drop_eq_getElem_cons h, List.replicate_succ', List.append_assoc, List.set_append_right _ _ (by simp)]
  simp
theorem rvb_be (k n j : Nat) (h : j < (be k n).length) (m : Nat) (hm : n / 256 ^ (k - 1 - j) = m) : vb (be k n)[j] = Value.int .u8 ((m : Int) % 256) := by
  have hk : j < k := by rw [be_length] at h; exact h
  have hg := be_get k n j hk
  rw [List.getElem?_eq_getElem h] at hg
  injection hg with hg
  rw [hg, vb, UInt8.toNat_ofNat', hm]
  rfl

set_option maxRecDepth 10000 in
set_option maxHeartbeats 1000000 in
theorem rput_ok1 (n : Nat) (w : World) (h : n < 4294967296) :
    Calls Tryd.prog 39 #[.int .i64 n, .int .i64 1] w fun e w' => ∃ v, e = .returned v ∧ w'.ownsRow w.heap.size 5 1 v 1 ((be 1 n).map vb) ∧ Below w.heap.size w w' := by
  obtain ⟨i0, hi, hz0, hz1, hz2⟩ := info_parts infoU8
  have hL := be_length 1 n
  go_enter Tryd.func39, Tryd.ntmps39
  go_wp2_with (refine wpList_make_w _ rfl (.tmp 7) (.tmp 7) 25 rfl w.heap.size 5 i0 (.int .u8 0) 1 Tryd.underlying25 hi hz0 hz1 .i64 .i64 _ _ 1 rfl rfl rfl rfl (by rw [hz2]; omega) (by unfold maxLen; omega) (Nat.le_refl _) ?_)
  intro w1 hown hg
  rw [toList_madeCells_one, replicate_vb] at hown
  have hb1 : Below w.heap.size w w1 := (Below.refl _ _).grown hg (Nat.le_refl _) (fun k hk => by cases hk)
  clear hg
  go_wp2_with fail
  go_loopw [0, 6] (fun x j wr => ∃ i : Nat, i ≤ 1 ∧ j = .int .i64 ((i : Int) - 1) ∧ x = .int .i64 ((n / 256 ^ (1 - i) : Nat) : Int) ∧ wr.ownsRow w.heap.size 5 1 (.slice (some ⟨w.heap.size, 0, none⟩) 1 1) 1 ((List.replicate i 0 ++ (be 1 n).drop i).map vb) ∧ Below w.heap.size w wr) (fun _ j _ => (intOf j + 1).toNat)
  case atStart => exact ⟨1, by omega, rfl, by simp, by rw [List.drop_of_length_le (by omega), List.append_nil]; exact hown, hb1⟩
  case round =>
    obtain ⟨i, hi4, rfl, rfl, ho, hb⟩ := hrel
    by_cases hil : i = 0
    case neg =>
      obtain ⟨j, rfl⟩ : ∃ j, i = j + 1 := ⟨i - 1, by omega⟩
      rw [show ((j + 1 : Nat) : Int) - 1 = (j : Int) from by omega]
      have j1 : (j : Int) < 1 := by omega
      have j0 : (0 : Int) ≤ (j : Int) := by omega
      have hn : n / 256 ^ (1 - j) = n / 256 ^ (1 - (j + 1)) / 256 := by rw [show 1 - j = (1 - (j + 1)) + 1 from by omega, Nat.pow_succ, Nat.div_div_eq_div_mul]
      have hc := ho.cellAt j (by omega)
      have hf := ho.frozenAt j
      have hs := (ho.stored j (vb ((be 1 n)[j]'(by omega)))).1
      rw [rfill_vb (be 1 n) j (by omega) _ rfl] at hs
      have hv := rvb_be 1 n j (by omega) (n / 256 ^ (1 - (j + 1))) (by rw [show 1 - 1 - j = 1 - (j + 1) from by omega])
      have hm : n / 256 ^ (1 - (j + 1)) ≤ n := Nat.div_le_self _ _
      have hne : ((List.replicate (j + 1) 0 ++ (be 1 n).drop (j + 1)).map vb)[j]? = some (vb 0) := by rw [List.getElem?_map, List.getElem?_append_left (by simp), List.getElem?_replicate]; simp
      rw [hne] at hc
      have HS := Lib.hid hs
      have HN := Lib.hid hn
      have HV := Lib.hid hv
      clear hs hne ho hn hv
      generalize n / 256 ^ (1 - (j + 1)) = m at HN HV hm ⊢
      have m0 : (0 : Int) ≤ (m : Int) := by omega
      have m1 : (m : Int) < 4294967296 := by omega
      go_wp2_with fail
      exact ⟨⟨j, by omega, rfl, by rw [HN.out]; simp, by rw [← HV.out]; exact HS.out, hb.setCell (p := ⟨w.heap.size, j, none⟩) (Nat.le_refl _) _⟩, by simp [intOf]⟩
    case pos =>
      subst hil
      go_wp2_with fail
      go_ret
      refine ⟨_, rfl, ?_, hb⟩
      simpa using ho

set_option maxRecDepth 10000 in
set_option maxHeartbeats 1000000 in
theorem rput_ok2 (n : Nat) (w : World) (h : n < 4294967296) :
    Calls Tryd.prog 39 #[.int .i64 n, .int .i64 2] w fun e w' => ∃ v, e = .returned v ∧ w'.ownsRow w.heap.size 5 1 v 2 ((be 2 n).map vb) ∧ Below w.heap.size w w' := by
  obtain ⟨i0, hi, hz0, hz1, hz2⟩ := info_parts infoU8
  have hL := be_length 2 n
  go_enter Tryd.func39, Tryd.ntmps39
  go_wp2_with (refine wpList_make_w _ rfl (.tmp 7) (.tmp 7) 25 rfl w.heap.size 5 i0 (.int .u8 0) 1 Tryd.underlying25 hi hz0 hz1 .i64 .i64 _ _ 2 rfl rfl rfl rfl (by rw [hz2]; omega) (by unfold maxLen; omega) (Nat.le_refl _) ?_)
  intro w1 hown hg
  rw [toList_madeCells_one, replicate_vb] at hown
  have hb1 : Below w.heap.size w w1 := (Below.refl _ _).grown hg (Nat.le_refl _) (fun k hk => by cases hk)
  clear hg
  go_wp2_with fail
  go_loopw [0, 6] (fun x j wr => ∃ i : Nat, i ≤ 2 ∧ j = .int .i64 ((i : Int) - 1) ∧ x = .int .i64 ((n / 256 ^ (2 - i) : Nat) : Int) ∧ wr.ownsRow w.heap.size 5 1 (.slice (some ⟨w.heap.size, 0, none⟩) 2 2) 2 ((List.replicate i 0 ++ (be 2 n).drop i).map vb) ∧ Below w.heap.size w wr) (fun _ j _ => (intOf j + 1).toNat)
  case atStart => exact ⟨2, by omega, rfl, by simp, by rw [List.drop_of_length_le (by omega), List.append_nil]; exact hown, hb1⟩
  case round =>
    obtain ⟨i, hi4, rfl, rfl, ho, hb⟩ := hrel
    by_cases hil : i = 0
    case neg =>
      obtain ⟨j, rfl⟩ : ∃ j, i = j + 1 := ⟨i - 1, by omega⟩
      rw [show ((j + 1 : Nat) : Int) - 1 = (j : Int) from by omega]
      have j1 : (j : Int) < 2 := by omega
      have j0 : (0 : Int) ≤ (j : Int) := by omega
      have hn : n / 256 ^ (2 - j) = n / 256 ^ (2 - (j + 1)) / 256 := by rw [show 2 - j = (2 - (j + 1)) + 1 from by omega, Nat.pow_succ, Nat.div_div_eq_div_mul]
      have hc := ho.cellAt j (by omega)
      have hf := ho.frozenAt j
      have hs := (ho.stored j (vb ((be 2 n)[j]'(by omega)))).1
      rw [rfill_vb (be 2 n) j (by omega) _ rfl] at hs
      have hv := rvb_be 2 n j (by omega) (n / 256 ^ (2 - (j + 1))) (by rw [show 2 - 1 - j = 2 - (j + 1) from by omega])
      have hm : n / 256 ^ (2 - (j + 1)) ≤ n := Nat.div_le_self _ _
      have hne : ((List.replicate (j + 1) 0 ++ (be 2 n).drop (j + 1)).map vb)[j]? = some (vb 0) := by rw [List.getElem?_map, List.getElem?_append_left (by simp), List.getElem?_replicate]; simp
      rw [hne] at hc
      have HS := Lib.hid hs
      have HN := Lib.hid hn
      have HV := Lib.hid hv
      clear hs hne ho hn hv
      generalize n / 256 ^ (2 - (j + 1)) = m at HN HV hm ⊢
      have m0 : (0 : Int) ≤ (m : Int) := by omega
      have m1 : (m : Int) < 4294967296 := by omega
      go_wp2_with fail
      exact ⟨⟨j, by omega, rfl, by rw [HN.out]; simp, by rw [← HV.out]; exact HS.out, hb.setCell (p := ⟨w.heap.size, j, none⟩) (Nat.le_refl _) _⟩, by simp [intOf]⟩
    case pos =>
      subst hil
      go_wp2_with fail
      go_ret
      refine ⟨_, rfl, ?_, hb⟩
      simpa using ho

set_option maxRecDepth 10000 in
set_option maxHeartbeats 1000000 in
theorem rput_ok3 (n : Nat) (w : World) (h : n < 4294967296) :
    Calls Tryd.prog 39 #[.int .i64 n, .int .i64 3] w fun e w' => ∃ v, e = .returned v ∧ w'.ownsRow w.heap.size 5 1 v 3 ((be 3 n).map vb) ∧ Below w.heap.size w w' := by
  obtain ⟨i0, hi, hz0, hz1, hz2⟩ := info_parts infoU8
  have hL := be_length 3 n
  go_enter Tryd.func39, Tryd.ntmps39
  go_wp2_with (refine wpList_make_w _ rfl (.tmp 7) (.tmp 7) 25 rfl w.heap.size 5 i0 (.int .u8 0) 1 Tryd.underlying25 hi hz0 hz1 .i64 .i64 _ _ 3 rfl rfl rfl rfl (by rw [hz2]; omega) (by unfold maxLen; omega) (Nat.le_refl _) ?_)
  intro w1 hown hg
  rw [toList_madeCells_one, replicate_vb] at hown
  have hb1 : Below w.heap.size w w1 := (Below.refl _ _).grown hg (Nat.le_refl _) (fun k hk => by cases hk)
  clear hg
  go_wp2_with fail
  go_loopw [0, 6] (fun x j wr => ∃ i : Nat, i ≤ 3 ∧ j = .int .i64 ((i : Int) - 1) ∧ x = .int .i64 ((n / 256 ^ (3 - i) : Nat) : Int) ∧ wr.ownsRow w.heap.size 5 1 (.slice (some ⟨w.heap.size, 0, none⟩) 3 3) 3 ((List.replicate i 0 ++ (be 3 n).drop i).map vb) ∧ Below w.heap.size w wr) (fun _ j _ => (intOf j + 1).toNat)
  case atStart => exact ⟨3, by omega, rfl, by simp, by rw [List.drop_of_length_le (by omega), List.append_nil]; exact hown, hb1⟩
  case round =>
    obtain ⟨i, hi4, rfl, rfl, ho, hb⟩ := hrel
    by_cases hil : i = 0
    case neg =>
      obtain ⟨j, rfl⟩ : ∃ j, i = j + 1 := ⟨i - 1, by omega⟩
      rw [show ((j + 1 : Nat) : Int) - 1 = (j : Int) from by omega]
      have j1 : (j : Int) < 3 := by omega
      have j0 : (0 : Int) ≤ (j : Int) := by omega
      have hn : n / 256 ^ (3 - j) = n / 256 ^ (3 - (j + 1)) / 256 := by rw [show 3 - j = (3 - (j + 1)) + 1 from by omega, Nat.pow_succ, Nat.div_div_eq_div_mul]
      have hc := ho.cellAt j (by omega)
      have hf := ho.frozenAt j
      have hs := (ho.stored j (vb ((be 3 n)[j]'(by omega)))).1
      rw [rfill_vb (be 3 n) j (by omega) _ rfl] at hs
      have hv := rvb_be 3 n j (by omega) (n / 256 ^ (3 - (j + 1))) (by rw [show 3 - 1 - j = 3 - (j + 1) from by omega])
      have hm : n / 256 ^ (3 - (j + 1)) ≤ n := Nat.div_le_self _ _
      have hne : ((List.replicate (j + 1) 0 ++ (be 3 n).drop (j + 1)).map vb)[j]? = some (vb 0) := by rw [List.getElem?_map, List.getElem?_append_left (by simp), List.getElem?_replicate]; simp
      rw [hne] at hc
      have HS := Lib.hid hs
      have HN := Lib.hid hn
      have HV := Lib.hid hv
      clear hs hne ho hn hv
      generalize n / 256 ^ (3 - (j + 1)) = m at HN HV hm ⊢
      have m0 : (0 : Int) ≤ (m : Int) := by omega
      have m1 : (m : Int) < 4294967296 := by omega
      go_wp2_with fail
      exact ⟨⟨j, by omega, rfl, by rw [HN.out]; simp, by rw [← HV.out]; exact HS.out, hb.setCell (p := ⟨w.heap.size, j, none⟩) (Nat.le_refl _) _⟩, by simp [intOf]⟩
    case pos =>
      subst hil
      go_wp2_with fail
      go_ret
      refine ⟨_, rfl, ?_, hb⟩
      simpa using ho

set_option maxRecDepth 10000 in
set_option maxHeartbeats 1000000 in
theorem rput_ok4 (n : Nat) (w : World) (h : n < 4294967296) :
    Calls Tryd.prog 39 #[.int .i64 n, .int .i64 4] w fun e w' => ∃ v, e = .returned v ∧ w'.ownsRow w.heap.size 5 1 v 4 ((be 4 n).map vb) ∧ Below w.heap.size w w' := by
  obtain ⟨i0, hi, hz0, hz1, hz2⟩ := info_parts infoU8
  have hL := be_length 4 n
  go_enter Tryd.func39, Tryd.ntmps39
  go_wp2_with (refine wpList_make_w _ rfl (.tmp 7) (.tmp 7) 25 rfl w.heap.size 5 i0 (.int .u8 0) 1 Tryd.underlying25 hi hz0 hz1 .i64 .i64 _ _ 4 rfl rfl rfl rfl (by rw [hz2]; omega) (by unfold maxLen; omega) (Nat.le_refl _) ?_)
  intro w1 hown hg
  rw [toList_madeCells_one, replicate_vb] at hown
  have hb1 : Below w.heap.size w w1 := (Below.refl _ _).grown hg (Nat.le_refl _) (fun k hk => by cases hk)
  clear hg
  go_wp2_with fail
  go_loopw [0, 6] (fun x j wr => ∃ i : Nat, i ≤ 4 ∧ j = .int .i64 ((i : Int) - 1) ∧ x = .int .i64 ((n / 256 ^ (4 - i) : Nat) : Int) ∧ wr.ownsRow w.heap.size 5 1 (.slice (some ⟨w.heap.size, 0, none⟩) 4 4) 4 ((List.replicate i 0 ++ (be 4 n).drop i).map vb) ∧ Below w.heap.size w wr) (fun _ j _ => (intOf j + 1).toNat)
  case atStart => exact ⟨4, by omega, rfl, by simp, by rw [List.drop_of_length_le (by omega), List.append_nil]; exact hown, hb1⟩
  case round =>
    obtain ⟨i, hi4, rfl, rfl, ho, hb⟩ := hrel
    by_cases hil : i = 0
    case neg =>
      obtain ⟨j, rfl⟩ : ∃ j, i = j + 1 := ⟨i - 1, by omega⟩
      rw [show ((j + 1 : Nat) : Int) - 1 = (j : Int) from by omega]
      have j1 : (j : Int) < 4 := by omega
      have j0 : (0 : Int) ≤ (j : Int) := by omega
      have hn : n / 256 ^ (4 - j) = n / 256 ^ (4 - (j + 1)) / 256 := by rw [show 4 - j = (4 - (j + 1)) + 1 from by omega, Nat.pow_succ, Nat.div_div_eq_div_mul]
      have hc := ho.cellAt j (by omega)
      have hf := ho.frozenAt j
      have hs := (ho.stored j (vb ((be 4 n)[j]'(by omega)))).1
      rw [rfill_vb (be 4 n) j (by omega) _ rfl] at hs
      have hv := rvb_be 4 n j (by omega) (n / 256 ^ (4 - (j + 1))) (by rw [show 4 - 1 - j = 4 - (j + 1) from by omega])
      have hm : n / 256 ^ (4 - (j + 1)) ≤ n := Nat.div_le_self _ _
      have hne : ((List.replicate (j + 1) 0 ++ (be 4 n).drop (j + 1)).map vb)[j]? = some (vb 0) := by rw [List.getElem?_map, List.getElem?_append_left (by simp), List.getElem?_replicate]; simp
      rw [hne] at hc
      have HS := Lib.hid hs
      have HN := Lib.hid hn
      have HV := Lib.hid hv
      clear hs hne ho hn hv
      generalize n / 256 ^ (4 - (j + 1)) = m at HN HV hm ⊢
      have m0 : (0 : Int) ≤ (m : Int) := by omega
      have m1 : (m : Int) < 4294967296 := by omega
      go_wp2_with fail
      exact ⟨⟨j, by omega, rfl, by rw [HN.out]; simp, by rw [← HV.out]; exact HS.out, hb.setCell (p := ⟨w.heap.size, j, none⟩) (Nat.le_refl _) _⟩, by simp [intOf]⟩
    case pos =>
      subst hil
      go_wp2_with fail
      go_ret
      refine ⟨_, rfl, ?_, hb⟩
      simpa using ho

end Go.Proofs.YtbmbpcibihddaaaDoor
