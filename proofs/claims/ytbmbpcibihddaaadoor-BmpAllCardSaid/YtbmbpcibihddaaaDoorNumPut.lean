/-
  A number's bytes: what the program's Put and the document's Put return. No condition but that the number fits.
-/
import Derived.Test.YtbmbpcibihddaaaDoorNumSums
import Derived.Test.YtbmbpcibihddaaaDoorBe
import Derived.Test.YtbmbpcibihddaaaDoorBytes
import Derived.Laws.OwnMore
import Derived.LoopTactic
import Derived.StillTailTactics
import Derived.Deep.RegionWith
namespace Go.Proofs.YtbmbpcibihddaaaDoor
open Go.ChangeShapes Go.WideShapes Go.ChangeAt Go.RowKit

theorem infoU8 : (Tryd.prog.info? 5).map (fun i => (i.zero, i.size, i.bytes)) = some (some (.int .u8 0), 1, 1) := by kernel_rfl
theorem fill_set (L : List UInt8) (i : Nat) (h : i < L.length) : (L.take i ++ List.replicate (L.length - i) 0).set i L[i] = L.take (i + 1) ++ List.replicate (L.length - (i + 1)) 0 := by
  have e : L.length - i = (L.length - (i + 1)) + 1 := by omega
  rw [e, List.replicate_succ, List.set_append_right _ _ (by simp; omega), List.take_succ_eq_append_getElem h, List.append_assoc]
  simp [Nat.min_eq_left (Nat.le_of_lt h)]
theorem fill_vb (L : List UInt8) (i : Nat) (h : i < L.length) (u : Value) (hu : u = vb L[i]) : ((L.take i ++ List.replicate (L.length - i) 0).map vb).set i u = (L.take (i + 1) ++ List.replicate (L.length - (i + 1)) 0).map vb := by
  rw [hu, ← List.map_set, fill_set L i h]

theorem put_bad (n wide : Int) (w : World) (h : ¬ (1 ≤ wide ∧ wide ≤ 4)) : Calls Tryd.prog 60 #[.int .i64 n, .int .i64 wide] w fun e w' => e = .returned (.tuple #[.slice none 0 0, .int .i64 1]) ∧ w = w' := by
  by_cases h1 : wide < 1
  · go_enter Tryd.func60, Tryd.ntmps60
    go_wp2
    go_ret2
    exact ⟨rfl, rfl⟩
  · have h4 : 4 < wide := by omega
    go_enter Tryd.func60, Tryd.ntmps60
    go_wp2
    go_ret2
    exact ⟨rfl, rfl⟩

theorem put_nofit (n wide : Int) (w : World) (h1 : 1 ≤ wide) (h4 : wide ≤ 4) (h : n < 0 ∨ 256 ^ wide.toNat ≤ n) : Calls Tryd.prog 60 #[.int .i64 n, .int .i64 wide] w fun e w' => e = .returned (.tuple #[.slice none 0 0, .int .i64 10]) ∧ w = w' := by
  by_cases hn : n < 0
  · go_enter Tryd.func60, Tryd.ntmps60
    go_wp2
    go_ret2
    exact ⟨rfl, rfl⟩
  · have hbig : 256 ^ wide.toNat ≤ n := by omega
    clear h
    obtain rfl | rfl | rfl | rfl : wide = 1 ∨ wide = 2 ∨ wide = 3 ∨ wide = 4 := by omega
    all_goals
      simp at hbig
      go_enter Tryd.func60, Tryd.ntmps60
      go_wp2
      go_ret2
      exact ⟨rfl, rfl⟩

theorem vb_be (k n i : Nat) (h : i < (be k n).length) (E : Nat) (hE : E = 8 * (k - 1 - i)) : Value.int .u8 ((n : Int) / 2 ^ E % 256) = vb (be k n)[i] := by
  have hk : i < k := by rw [be_length] at h; exact h
  have hg := be_get k n i hk
  rw [List.getElem?_eq_getElem h] at hg
  injection hg with hg
  have e : (256 : Nat) ^ (k - 1 - i) = 2 ^ (8 * (k - 1 - i)) := by rw [Nat.pow_mul]
  rw [hg, vb, UInt8.toNat_ofNat', hE, e]
  congr 1

set_option maxRecDepth 10000 in
set_option maxHeartbeats 1000000 in
theorem put_ok1 (n : Nat) (w : World) (h : n < 256) :
    Calls Tryd.prog 60 #[.int .i64 n, .int .i64 1] w fun e w' => ∃ v, e = .returned (.tuple #[v, .int .i64 0]) ∧ w'.ownsRow w.heap.size 5 1 v 1 ((be 1 n).map vb) ∧ Below w.heap.size w w' := by
  obtain ⟨i0, hi, hz0, hz1, hz2⟩ := info_parts infoU8
  have hL := be_length 1 n
  have h' : (n : Int) < 256 := by omega
  have h0 : (0 : Int) ≤ (n : Int) := by omega
  have hd : decide ((n : Int) < 0) = false := decide_eq_false (by omega)
  have hq : (n : Int) / 256 = 0 := by omega
  go_enter Tryd.func60, Tryd.ntmps60
  go_wp2_with (refine wpList_make_w _ rfl (.tmp 23) (.tmp 23) 25 rfl w.heap.size 5 i0 (.int .u8 0) 1 Tryd.underlying25 hi hz0 hz1 .i64 .i64 _ _ 1 rfl rfl rfl rfl (by rw [hz2]; omega) (by unfold maxLen; omega) (Nat.le_refl _) ?_)
  intro w1 hown hg
  rw [toList_madeCells_one, replicate_vb] at hown
  have hb1 : Below w.heap.size w w1 := (Below.refl _ _).grown hg (Nat.le_refl _) (fun k hk => by cases hk)
  clear hg
  go_wp2_with fail
  go_loopw [27] (fun j wr => ∃ i : Nat, i ≤ 1 ∧ j = .int .i64 i ∧ wr.ownsRow w.heap.size 5 1 (.slice (some ⟨w.heap.size, 0, none⟩) 1 1) 1 (((be 1 n).take i ++ List.replicate ((be 1 n).length - i) 0).map vb) ∧ Below w.heap.size w wr) (fun j _ => 1 - (intOf j).toNat)
  case atStart => exact ⟨0, by omega, rfl, by rw [hL]; simpa using hown, hb1⟩
  case round =>
    obtain ⟨i, hi4, rfl, ho, hb⟩ := hrel
    by_cases hil : i < 1
    case pos =>
      have i1 : (i : Int) < 1 := by omega
      have i0 : (0 : Int) ≤ (i : Int) := by omega
      have hc := ho.cellAt i (by omega)
      have hf := ho.frozenAt i
      have hs := (ho.stored i (vb ((be 1 n)[i]'(by omega)))).1
      rw [fill_vb (be 1 n) i (by omega) _ rfl] at hs
      have HS := Lib.hid hs
      have hne : (((be 1 n).take i ++ List.replicate ((be 1 n).length - i) 0).map vb)[i]? = some (vb 0) := by rw [List.getElem?_map, List.getElem?_append_right (by simp; omega), List.getElem?_replicate]; simp [hL]; omega
      rw [hne] at hc
      clear hs hne ho
      go_wp2_with fail
      exact ⟨⟨i + 1, by omega, by simp, by rw [vb_be 1 n i (by omega) _ (by omega)]; exact HS.out, hb.setCell (p := ⟨w.heap.size, i, none⟩) (Nat.le_refl _) _⟩, by simp [intOf]; omega⟩
    case neg =>
      have hi' : i = 1 := by omega
      subst hi'
      go_wp2_with fail
      go_ret2
      refine ⟨_, rfl, ?_, hb⟩
      have := ho
      rw [hL] at this
      simpa [List.take_of_length_le (Nat.le_of_eq hL)] using this

set_option maxRecDepth 10000 in
set_option maxHeartbeats 1000000 in
theorem put_ok2 (n : Nat) (w : World) (h : n < 65536) :
    Calls Tryd.prog 60 #[.int .i64 n, .int .i64 2] w fun e w' => ∃ v, e = .returned (.tuple #[v, .int .i64 0]) ∧ w'.ownsRow w.heap.size 5 1 v 2 ((be 2 n).map vb) ∧ Below w.heap.size w w' := by
  obtain ⟨i0, hi, hz0, hz1, hz2⟩ := info_parts infoU8
  have hL := be_length 2 n
  have h' : (n : Int) < 65536 := by omega
  have h0 : (0 : Int) ≤ (n : Int) := by omega
  have hd : decide ((n : Int) < 0) = false := decide_eq_false (by omega)
  have hq : (n : Int) / 65536 = 0 := by omega
  go_enter Tryd.func60, Tryd.ntmps60
  go_wp2_with (refine wpList_make_w _ rfl (.tmp 23) (.tmp 23) 25 rfl w.heap.size 5 i0 (.int .u8 0) 1 Tryd.underlying25 hi hz0 hz1 .i64 .i64 _ _ 2 rfl rfl rfl rfl (by rw [hz2]; omega) (by unfold maxLen; omega) (Nat.le_refl _) ?_)
  intro w1 hown hg
  rw [toList_madeCells_one, replicate_vb] at hown
  have hb1 : Below w.heap.size w w1 := (Below.refl _ _).grown hg (Nat.le_refl _) (fun k hk => by cases hk)
  clear hg
  go_wp2_with fail
  go_loopw [27] (fun j wr => ∃ i : Nat, i ≤ 2 ∧ j = .int .i64 i ∧ wr.ownsRow w.heap.size 5 1 (.slice (some ⟨w.heap.size, 0, none⟩) 2 2) 2 (((be 2 n).take i ++ List.replicate ((be 2 n).length - i) 0).map vb) ∧ Below w.heap.size w wr) (fun j _ => 2 - (intOf j).toNat)
  case atStart => exact ⟨0, by omega, rfl, by rw [hL]; simpa using hown, hb1⟩
  case round =>
    obtain ⟨i, hi4, rfl, ho, hb⟩ := hrel
    by_cases hil : i < 2
    case pos =>
      have i1 : (i : Int) < 2 := by omega
      have i0 : (0 : Int) ≤ (i : Int) := by omega
      have hc := ho.cellAt i (by omega)
      have hf := ho.frozenAt i
      have hs := (ho.stored i (vb ((be 2 n)[i]'(by omega)))).1
      rw [fill_vb (be 2 n) i (by omega) _ rfl] at hs
      have HS := Lib.hid hs
      have hne : (((be 2 n).take i ++ List.replicate ((be 2 n).length - i) 0).map vb)[i]? = some (vb 0) := by rw [List.getElem?_map, List.getElem?_append_right (by simp; omega), List.getElem?_replicate]; simp [hL]; omega
      rw [hne] at hc
      clear hs hne ho
      go_wp2_with fail
      exact ⟨⟨i + 1, by omega, by simp, by rw [vb_be 2 n i (by omega) _ (by omega)]; exact HS.out, hb.setCell (p := ⟨w.heap.size, i, none⟩) (Nat.le_refl _) _⟩, by simp [intOf]; omega⟩
    case neg =>
      have hi' : i = 2 := by omega
      subst hi'
      go_wp2_with fail
      go_ret2
      refine ⟨_, rfl, ?_, hb⟩
      have := ho
      rw [hL] at this
      simpa [List.take_of_length_le (Nat.le_of_eq hL)] using this

set_option maxRecDepth 10000 in
set_option maxHeartbeats 1000000 in
theorem put_ok3 (n : Nat) (w : World) (h : n < 16777216) :
    Calls Tryd.prog 60 #[.int .i64 n, .int .i64 3] w fun e w' => ∃ v, e = .returned (.tuple #[v, .int .i64 0]) ∧ w'.ownsRow w.heap.size 5 1 v 3 ((be 3 n).map vb) ∧ Below w.heap.size w w' := by
  obtain ⟨i0, hi, hz0, hz1, hz2⟩ := info_parts infoU8
  have hL := be_length 3 n
  have h' : (n : Int) < 16777216 := by omega
  have h0 : (0 : Int) ≤ (n : Int) := by omega
  have hd : decide ((n : Int) < 0) = false := decide_eq_false (by omega)
  have hq : (n : Int) / 16777216 = 0 := by omega
  go_enter Tryd.func60, Tryd.ntmps60
  go_wp2_with (refine wpList_make_w _ rfl (.tmp 23) (.tmp 23) 25 rfl w.heap.size 5 i0 (.int .u8 0) 1 Tryd.underlying25 hi hz0 hz1 .i64 .i64 _ _ 3 rfl rfl rfl rfl (by rw [hz2]; omega) (by unfold maxLen; omega) (Nat.le_refl _) ?_)
  intro w1 hown hg
  rw [toList_madeCells_one, replicate_vb] at hown
  have hb1 : Below w.heap.size w w1 := (Below.refl _ _).grown hg (Nat.le_refl _) (fun k hk => by cases hk)
  clear hg
  go_wp2_with fail
  go_loopw [27] (fun j wr => ∃ i : Nat, i ≤ 3 ∧ j = .int .i64 i ∧ wr.ownsRow w.heap.size 5 1 (.slice (some ⟨w.heap.size, 0, none⟩) 3 3) 3 (((be 3 n).take i ++ List.replicate ((be 3 n).length - i) 0).map vb) ∧ Below w.heap.size w wr) (fun j _ => 3 - (intOf j).toNat)
  case atStart => exact ⟨0, by omega, rfl, by rw [hL]; simpa using hown, hb1⟩
  case round =>
    obtain ⟨i, hi4, rfl, ho, hb⟩ := hrel
    by_cases hil : i < 3
    case pos =>
      have i1 : (i : Int) < 3 := by omega
      have i0 : (0 : Int) ≤ (i : Int) := by omega
      have hc := ho.cellAt i (by omega)
      have hf := ho.frozenAt i
      have hs := (ho.stored i (vb ((be 3 n)[i]'(by omega)))).1
      rw [fill_vb (be 3 n) i (by omega) _ rfl] at hs
      have HS := Lib.hid hs
      have hne : (((be 3 n).take i ++ List.replicate ((be 3 n).length - i) 0).map vb)[i]? = some (vb 0) := by rw [List.getElem?_map, List.getElem?_append_right (by simp; omega), List.getElem?_replicate]; simp [hL]; omega
      rw [hne] at hc
      clear hs hne ho
      go_wp2_with fail
      exact ⟨⟨i + 1, by omega, by simp, by rw [vb_be 3 n i (by omega) _ (by omega)]; exact HS.out, hb.setCell (p := ⟨w.heap.size, i, none⟩) (Nat.le_refl _) _⟩, by simp [intOf]; omega⟩
    case neg =>
      have hi' : i = 3 := by omega
      subst hi'
      go_wp2_with fail
      go_ret2
      refine ⟨_, rfl, ?_, hb⟩
      have := ho
      rw [hL] at this
      simpa [List.take_of_length_le (Nat.le_of_eq hL)] using this

set_option maxRecDepth 10000 in
set_option maxHeartbeats 1000000 in
theorem put_ok4 (n : Nat) (w : World) (h : n < 4294967296) :
    Calls Tryd.prog 60 #[.int .i64 n, .int .i64 4] w fun e w' => ∃ v, e = .returned (.tuple #[v, .int .i64 0]) ∧ w'.ownsRow w.heap.size 5 1 v 4 ((be 4 n).map vb) ∧ Below w.heap.size w w' := by
  obtain ⟨i0, hi, hz0, hz1, hz2⟩ := info_parts infoU8
  have hL := be_length 4 n
  have h' : (n : Int) < 4294967296 := by omega
  have h0 : (0 : Int) ≤ (n : Int) := by omega
  have hd : decide ((n : Int) < 0) = false := decide_eq_false (by omega)
  have hq : (n : Int) / 4294967296 = 0 := by omega
  go_enter Tryd.func60, Tryd.ntmps60
  go_wp2_with (refine wpList_make_w _ rfl (.tmp 23) (.tmp 23) 25 rfl w.heap.size 5 i0 (.int .u8 0) 1 Tryd.underlying25 hi hz0 hz1 .i64 .i64 _ _ 4 rfl rfl rfl rfl (by rw [hz2]; omega) (by unfold maxLen; omega) (Nat.le_refl _) ?_)
  intro w1 hown hg
  rw [toList_madeCells_one, replicate_vb] at hown
  have hb1 : Below w.heap.size w w1 := (Below.refl _ _).grown hg (Nat.le_refl _) (fun k hk => by cases hk)
  clear hg
  go_wp2_with fail
  go_loopw [27] (fun j wr => ∃ i : Nat, i ≤ 4 ∧ j = .int .i64 i ∧ wr.ownsRow w.heap.size 5 1 (.slice (some ⟨w.heap.size, 0, none⟩) 4 4) 4 (((be 4 n).take i ++ List.replicate ((be 4 n).length - i) 0).map vb) ∧ Below w.heap.size w wr) (fun j _ => 4 - (intOf j).toNat)
  case atStart => exact ⟨0, by omega, rfl, by rw [hL]; simpa using hown, hb1⟩
  case round =>
    obtain ⟨i, hi4, rfl, ho, hb⟩ := hrel
    by_cases hil : i < 4
    case pos =>
      have i1 : (i : Int) < 4 := by omega
      have i0 : (0 : Int) ≤ (i : Int) := by omega
      have hc := ho.cellAt i (by omega)
      have hf := ho.frozenAt i
      have hs := (ho.stored i (vb ((be 4 n)[i]'(by omega)))).1
      rw [fill_vb (be 4 n) i (by omega) _ rfl] at hs
      have HS := Lib.hid hs
      have hne : (((be 4 n).take i ++ List.replicate ((be 4 n).length - i) 0).map vb)[i]? = some (vb 0) := by rw [List.getElem?_map, List.getElem?_append_right (by simp; omega), List.getElem?_replicate]; simp [hL]; omega
      rw [hne] at hc
      clear hs hne ho
      go_wp2_with fail
      exact ⟨⟨i + 1, by omega, by simp, by rw [vb_be 4 n i (by omega) _ (by omega)]; exact HS.out, hb.setCell (p := ⟨w.heap.size, i, none⟩) (Nat.le_refl _) _⟩, by simp [intOf]; omega⟩
    case neg =>
      have hi' : i = 4 := by omega
      subst hi'
      go_wp2_with fail
      go_ret2
      refine ⟨_, rfl, ?_, hb⟩
      have := ho
      rw [hL] at this
      simpa [List.take_of_length_le (Nat.le_of_eq hL)] using this

end Go.Proofs.YtbmbpcibihddaaaDoor
