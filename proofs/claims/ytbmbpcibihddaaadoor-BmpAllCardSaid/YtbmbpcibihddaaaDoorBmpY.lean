/-
  What is monitored, by the document: All. No condition but that bytes read as data.
-/
import Derived.Test.YtbmbpcibihddaaaDoorBmpW
import Derived.Test.YtbmbpcibihddaaaDoorBmpRG
namespace Go.Proofs.YtbmbpcibihddaaaDoor
open Go.ChangeShapes Go.WideShapes Go.ChangeAt Go.RowKit

/-- what it leaves -/
structure rallEnd (w : World) (l : List UInt8) (e : Ending) (w' : World) : Prop where
  no : ball l = none → e = .returned (.tuple #[.slice none 0 0, .bool false])
  yes : ∀ ms, ball l = some ms → ∃ (vs : List MoV) (v : Value), vs.map MoV.d = ms ∧ e = .returned (.tuple #[v, .bool true]) ∧ w'.ownsRow w.heap.size 45 10 v vs.length (monCells vs) ∧ (∀ m ∈ vs, m.Rd w' (fun k => w.heap.size ≤ k))
  bel : Below w.heap.size w w'
set_option maxRecDepth 20000 in
set_option maxHeartbeats 8000000 in
theorem rall_any (A : Option Addr) (c : Nat) (l : List UInt8) (F : Nat → Prop) (w : World) (hlc : l.length ≤ c) (hl : l.length ≤ 100000) (hr : Reads w F A (l.map vb)) :
    Calls Tryd.prog 27 #[.slice A l.length c] w (rallEnd w l) := by
  obtain ⟨iM, hiM, hz0, hz1, hz2⟩ := info_parts infoMon
  have hsz : (Tryd.prog.info? 5).map (·.size) = some 1 := by kernel_rfl
  have HS0 := Lib.hid (show AS w w l A c l (.slice none 0 0) [] from ⟨own_nil _ _ _ _, Below.refl _ _, hr.mono (fun _ h _ => h), hlc, by simp, by simp, l.length, Nat.le_refl _, by unfold ball; cases ballF l.length l <;> simp⟩)
  clear hr
  go_enter Tryd.func27, Tryd.ntmps27
  go_wp2_with fail
  go_loopw [0, 4] (fun b o wr => ∃ (A' : Option Addr) (c' : Nat) (rest : List UInt8) (vs : List MoV) (v : Value), b = .slice A' rest.length c' ∧ o = v ∧ AS w wr l A' c' rest v vs) (fun b _ _ => sliceN b)
  case atStart => exact ⟨A, c, l, [], _, rfl, rfl, HS0.out⟩
  case round =>
    obtain ⟨A', c', rest, vs, v, rfl, hov, has⟩ := hrel
    have hov := hov.symm
    subst hov
    have HA := Lib.hid has
    have hle := has.len
    have hc' := has.rc
    clear has
    by_cases hne : rest = []
    · subst hne
      go_wp2_with fail
      go_ret2
      obtain ⟨f, -, he⟩ := HA.out.eq
      rw [ballF_nil] at he
      refine ⟨fun h => (by rw [h] at he; cases he), fun ms h => ?_, HA.out.bel⟩
      rw [h] at he
      injection he with he
      exact ⟨vs, _, by rw [he]; simp, rfl, HA.out.own, fun m hm => (HA.out.each m hm).mono (fun _ _ h => h.1)⟩
    · have hpos : 0 < rest.length := List.length_pos_iff.2 hne
      have hposI : (0 : Int) < (rest.length : Int) := by omega
      have HG := Lib.hid (rgetB_any A' c' rest _ wr hc' (by omega) HA.out.rd)
      have HNE := Lib.hid hne
      cases hg : bget rest with
      | none =>
        have HN := Lib.hid (show ball l = none from by
          obtain ⟨f, hf, he⟩ := HA.out.eq
          rw [he, ballF_none hne hf hg]; rfl)
        have HGN := Lib.hid hg
        clear hne hg
        go_wp2_with fail
        refine HG.out.mono ?_
        rintro e w2 ⟨hno, -, hb⟩
        have he := hno HGN.out
        subst he
        have HB := Lib.hid (HA.out.bel.trans (hb.mono HA.out.bel.size))
        have hb2 := below_a1 w2 (.cells (mon0 0).cells 45)
        have HB2 := Lib.hid (HB.out.trans (hb2.mono HB.out.size))
        clear hno hb hb2
        go_wp2_with (refine wpList_store_new (by rfl) 45 (.tmp 5) (.tmp 14) rfl w2 _ (mon0 0).cells rfl (by rfl) (by rfl) (by kernel_rfl) (by rfl) (mon_one _) ?_)
        go_ret2
        exact ⟨fun _ => rfl, fun ms h => (by rw [HN.out] at h; cases h), HB2.out⟩
      | some x =>
        obtain ⟨d, n⟩ := x
        have HGN := Lib.hid hg
        obtain ⟨-, -, hn6, hnl, -⟩ := bget_some hg
        clear hne hg
        go_wp2_with fail
        refine HG.out.mono ?_
        rintro e w2 ⟨-, hyes, hb⟩
        obtain ⟨m, hmd, rfl, hmr⟩ := hyes _ _ HGN.out
        subst hmd
        have HMR := Lib.hid hmr
        have HB := Lib.hid hb
        have b2 := below_a1 w2 (.cells m.cells 45)
        have b3 := b2.alloc b2.size (.cells m.cells 45)
        have HK2 := Lib.hid (Blk.new w2 45 m.cells)
        have HK3 := Lib.hid (Blk.new1 w2 (.cells m.cells 45) 45 m.cells)
        have HB3 := Lib.hid (hb.trans (b3.mono hb.size))
        have HO3 := Lib.hid (show ((w2.alloc (.cells m.cells 45)).alloc (.cells m.cells 45)).ownsRow w.heap.size 45 10 v vs.length (monCells vs) from own_only HA.out.own (S := fun _ => False) (Only.of_below HB3.out) (fun _ _ h => h))
        have HRM := Lib.hid (show Reads ((w2.alloc (.cells m.cells 45)).alloc (.cells m.cells 45)) (fun _ => True) (some ⟨(w2.alloc (.cells m.cells 45)).heap.size, 0, none⟩) m.cells.toList from by rw [World.size_alloc]; exact (reads_of_blk HK3.out).mono (fun _ _ _ => trivial))
        have hws : w.heap.size ≤ ((w2.alloc (.cells m.cells 45)).alloc (.cells m.cells 45)).heap.size := Nat.le_trans HA.out.bel.size HB3.out.size
        have hvl := monCells_len vs
        have HVL := Lib.hid hvl
        have hmc1 : ∀ u ∈ m.cells.toList, u.oneCell' = true := by
          have := monCells_one [m]
          simpa [monCells] using this
        have HMR3 := Lib.hid (hmr.below b3 (fun _ hl _ => hl))
        clear hyes hmr hb b2 b3 hvl
        simp only [MoV.val]
        go_upto_region 6 with (refine wpList_store_new (by rfl) 45 (.tmp 5) (.tmp 14) rfl w2 _ m.cells rfl (by rfl) (by rfl) (by kernel_rfl) (by rfl) (mon_one _) ?_)
        go_wp2_with (first | (refine wpList_load_blk (by rfl) 45 (.tmp 5) rfl w2.heap.size (by rfl) 45 m.cells _ HK2.out Tryd.underlying45 rfl (by kernel_rfl) ?_) | (refine wpList_buildSlice (by rfl) 57 45 1 #[(0, .tmp 20)] rfl m.cells iM (.agg (mon0 0).cells) Tryd.underlying57 hiM hz0 (by rw [hz1]; omega) (by rw [hz1]; omega) (by rw [hz1, Array.toList_map]; exact fill_mon m) ?_) | (refine wpList_append_rd _ (by rfl) (.tmp 19) (.tmp 21) 57 rfl w.heap.size 45 iM (.agg (mon0 0).cells) 10 112 Tryd.underlying57 hiM hz0 hz1 hz2 rfl (by omega) v vs.length (monCells vs) (by rfl) HO3.out (fun _ => True) _ 1 1 m.cells.toList (by rfl) (by rfl) HRM.out hmc1 (by unfold maxLen; omega) (by omega) hws ?_))
        intro v3 w3 hown3 hg3 hloc3
        have HN := Lib.hid (HA.out.step HNE.out HGN.out HMR3.out HB3.out hown3 hg3 (by simpa using hloc3))
        have hn6' : 0 < n := by omega
        clear hown3 hg3 hloc3 hws hmc1
        go_wp2_with (refine wpList_cut_from (by rfl) 25 5 (.tmp 23) (.tmp 24) rfl Tryd.underlying25 hsz A' rest.length c' n (n : Int) (by rfl) (by rfl) rfl (by omega) ?_)
        go_roundw
        case rel => exact ⟨cutA A' c' n, c' - n, rest.drop n, vs ++ [m], _, by rw [List.length_drop], rfl, HN.out⟩
        case measure => simp [sliceN]; omega
end Go.Proofs.YtbmbpcibihddaaaDoor
