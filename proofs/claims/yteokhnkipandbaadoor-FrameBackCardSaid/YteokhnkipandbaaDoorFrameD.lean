/-
  Messages' bytes: Repeat of a mark, the program's Put. No condition but that bytes read as data and the table of least lengths as it is laid.
-/
import Derived.Test.YteokhnkipandbaaDoorFrameC
import Derived.Test.YteokhnkipandbaaDoorHeld
import Derived.Deep.RegionLaw
namespace Go.Proofs.YteokhnkipandbaaDoor
open Go.ChangeShapes Go.WideShapes Go.ChangeAt Go.RowKit

theorem mul64_16 (w : World) : Calls Tryd.prog 148 #[.int .u64 1, .int .u64 16] w fun e w' => e = .returned (.tuple #[.int .u64 0, .int .u64 16]) ∧ w = w' := by
  go_enter Tryd.func148, Tryd.ntmps148
  go_wp2_with fail
  go_ret2
  exact ⟨rfl, rfl⟩
theorem mul_16 (w : World) : Calls Tryd.prog 129 #[.int .u64 1, .int .u64 16] w fun e w' => e = .returned (.tuple #[.int .u64 0, .int .u64 16]) ∧ w = w' := by
  go_enter Tryd.func129, Tryd.ntmps129
  go_wp2_with fail
  refine (mul64_16 _).mono ?_
  rintro e w' ⟨rfl, rfl⟩
  go_wp2_with fail
  go_ret2
  exact ⟨rfl, rfl⟩

def marksL (m : Nat) : List Value := (List.replicate m (255 : UInt8) ++ List.replicate (16 - m) 0).map vb
theorem marks_len (m : Nat) (h : m ≤ 16) : (marksL m).length = 16 := by simp [marksL]; omega
theorem marks_splice (m : Nat) (h : m = 1 ∨ m = 2 ∨ m = 4 ∨ m = 8) : splice (marksL m) m ((List.replicate m (255 : UInt8)).map vb) = marksL (m + m) := by
  rcases h with rfl | rfl | rfl | rfl <;> rfl
theorem marks_take (m : Nat) (j : Nat) (u : Value) (h : ((List.replicate m (255 : UInt8)).map vb)[j]? = some u) : (marksL m)[j]? = some u := by
  unfold marksL
  rw [List.map_append]
  have hj : j < ((List.replicate m (255 : UInt8)).map vb).length := by
    rcases Nat.lt_or_ge j ((List.replicate m (255 : UInt8)).map vb).length with h' | h'
    · exact h'
    · rw [List.getElem?_eq_none h'] at h; cases h
  rw [List.getElem?_append_left hj]
  exact h

theorem full_own {w : World} {B g n : Nat} {xs : List Value} (h : Blk w g 5 xs.toArray) (hB : B ≤ g) (hn : xs.length = n) (hm : n ≤ maxLen) : w.ownsRow B 5 1 (.slice (some ⟨g, 0, none⟩) n n) n xs :=
  ⟨by simp [hn], .inr ⟨g, n, xs.toArray, rfl, hB, h, Nat.le_refl _, hm, by simp [hn], by simp [← hn]⟩⟩

set_option maxRecDepth 10000 in
set_option maxHeartbeats 2000000 in
theorem repeat_mark (A : Option Addr) (c : Nat) (F : Nat → Prop) (w : World) (hr : Reads w F A ([255].map vb)) :
    Calls Tryd.prog 87 #[.slice A 1 c, .int .i64 16] w fun e w' => ∃ v, e = .returned v ∧ w'.ownsRow w.heap.size 5 1 v 16 ((List.replicate 16 (255 : UInt8)).map vb) ∧ Below w.heap.size w w' := by
  obtain ⟨i0, hi, hz0, hz1, hz2⟩ := info_parts infoU8
  obtain ⟨b0, off, hA, _, hb0, hc⟩ := hr.at_ (k := 0) (by simp)
  subst hA
  simp only [List.getElem_map, List.getElem_cons_zero, Nat.add_zero] at hc
  clear hr
  go_enter Tryd.func87, Tryd.ntmps87
  go_wp2_with fail
  refine (mul_16 _).mono ?_
  rintro e w' ⟨rfl, rfl⟩
  go_wp2_with (refine wpList_make_w _ rfl (.tmp 29) (.tmp 29) 59 rfl w.heap.size 5 i0 (.int .u8 0) 1 Tryd.underlying59 hi hz0 hz1 .i64 .i64 _ _ 16 rfl rfl rfl rfl (by rw [hz2]; omega) (by unfold maxLen; omega) (Nat.le_refl _) ?_)
  intro w1 hown hg
  rw [toList_madeCells_one, replicate_vb] at hown
  have hcur := own_full hown
  have hb1 : Below w.heap.size w w1 := (Below.refl _ _).grown hg (Nat.le_refl _) (fun k hk => by cases hk)
  have hc1 := (hb1.cell (p := ⟨b0, off, none⟩) hb0).trans hc
  clear hown hg hc
  go_wp2_with (refine wpList_copy_splice rfl (.tmp 31) (.tmp 32) 59 59 rfl 5 Tryd.underlying59 (by kernel_rfl) (some ⟨w.heap.size, 0, none⟩) (some ⟨b0, off, none⟩) 16 16 1 c (by rfl) (by rfl) w.heap.size 0 ((List.replicate 16 (0 : UInt8)).map vb) 5 hcur ([255].map vb) (by rfl) ?_ (by simp) (vb_one _) w.heap.size w hb1 (Nat.le_refl _) ?_)
  · intro j u hj
    match j, hj with
    | 0, hj => simp at hj; subst hj; exact hc1
    | j + 1, hj => simp at hj
  intro w2 hw2 hb2
  have hrow : Blk w2 w.heap.size 5 (marksL 1).toArray := hw2.out
  clear hw2 hcur hc1 hb1
  go_wp2_with fail
  go_loopw [8] (fun n wr => ∃ m : Nat, (m = 1 ∨ m = 2 ∨ m = 4 ∨ m = 8 ∨ m = 16) ∧ n = .int .i64 m ∧ Blk wr w.heap.size 5 (marksL m).toArray ∧ Below w.heap.size w wr) (fun n _ => 16 - (intOf n).toNat)
  case atStart => exact ⟨1, .inl rfl, rfl, hrow, hb2⟩
  case round =>
    obtain ⟨m, hm, rfl, hrow, hb⟩ := hrel
    rcases Decidable.em (m = 16) with rfl | hne
    · clear hm
      have HO := Lib.hid (full_own (B := w.heap.size) hrow (Nat.le_refl _) (marks_len 16 (by omega)) (by unfold maxLen; omega))
      clear hrow
      go_wp2_with fail
      go_ret
      exact ⟨_, rfl, HO.out, hb⟩
    · have hm4 : m = 1 ∨ m = 2 ∨ m = 4 ∨ m = 8 := by omega
      have HS := Lib.hid (marks_splice m hm4)
      have hm16 : m ≤ 8 := by omega
      have HM := Lib.hid (show m + m = 1 ∨ m + m = 2 ∨ m + m = 4 ∨ m + m = 8 ∨ m + m = 16 by omega)
      have HT := Lib.hid (marks_take m)
      have HL := Lib.hid (marks_len m (by omega))
      have hm1 : 1 ≤ m := by omega
      clear hm hm4 hne
      have k1 : (m : Int) < 16 := by omega
      have k2 : (0 : Int) ≤ (m : Int) := by omega
      have k3 : (m : Int) ≤ 16 := by omega
      have k4 : ¬ 16 = m := by omega
      have k5 : m ≤ 16 := by omega
      have e1 : IntKind.i64.wrap ((m : Int) + m) = (m : Int) + m := IntWalk.i64_in _ (by omega)
      go_wp2_with fail
      have hrow2 : wr.drew.heap[w.heap.size]? = some (.cells (marksL m).toArray 5 (0, 0)) := hrow
      have hbd : Below w.heap.size w wr.drew := hb.drew
      have hcell : ∀ j u, ((List.replicate m (255 : UInt8)).map vb)[j]? = some u → wr.drew.cell? ((⟨w.heap.size, 0, none⟩ : Addr).add j) = some u := fun j u hj => by
        rw [addr_add rfl, Nat.zero_add]
        have h1 := (hrow.drew).cell j
        rw [h1]
        simpa using HT.out j u hj
      have hn : ((List.replicate m (255 : UInt8)).map vb).length = Nat.min m (16 - m) := by
        have : m ≤ 16 - m := by omega
        simp [Nat.min_eq_left this]
      have hfit : m + ((List.replicate m (255 : UInt8)).map vb).length ≤ (marksL m).length := by
        rw [HL.out]
        simp
        omega
      have hlen : ((List.replicate m (255 : UInt8)).map vb).length = m := by simp
      obtain ⟨cs, hcs⟩ : ∃ cs, cs = (List.replicate m (255 : UInt8)).map vb := ⟨_, rfl⟩
      rw [← hcs] at hcell hn hfit hlen
      have hone : ∀ u ∈ cs, u.oneCell' = true := by rw [hcs]; exact vb_one _
      have HCS := Lib.hid hcs
      have HCL := Lib.hid hcell
      have HN := Lib.hid hn
      have HFT := Lib.hid hfit
      have HON := Lib.hid hone
      clear hcs hcell hn hfit hone hrow hb
      go_region_held3 (fun _ => True) (trivial) ((refine step_copy_splice (by rfl) (.tmp 41) (.tmp 44) 59 59 (by rfl) 5 Tryd.underlying59 (by kernel_rfl) (some ⟨w.heap.size, m, none⟩) (some ⟨w.heap.size, 0, none⟩) (16 - m) (16 - m) m 16 (by rfl) (by rfl) w.heap.size m (marksL m) 5 hrow2 cs HN.out (fun _ => ⟨rfl, _, rfl, HCL.out⟩) HFT.out HON.out w.heap.size w hbd (Nat.le_refl _) ?_; rw [hlen]; intro w4 hg4 hb4))
      go_wp2_with fail
      refine ⟨⟨m + m, HM.out, by simp, ?_, hb4⟩, by simp [intOf]; omega⟩
      have := hg4.out
      rw [HCS.out, HS.out] at this
      exact this

theorem Blk.new1 (w : World) (o : Obj) (t : TypeId) (cs : Array Value) : Blk ((w.alloc o).alloc (.cells cs t)) (w.heap.size + 1) t cs := by
  have := Blk.new (w.alloc o) t cs
  rw [World.size_alloc] at this
  exact this
theorem below_a1 (w : World) (o : Obj) : Below w.heap.size w (w.alloc o) := (Below.refl _ _).alloc (Nat.le_refl _) _
theorem below_a2 (w : World) (o o' : Obj) : Below w.heap.size w ((w.alloc o).alloc o') := (below_a1 w o).alloc (by simp) _

/-- a message's bytes -/
def MV.put (m : MV) : List UInt8 := List.replicate 16 255 ++ (be 2 (19 + m.d.length) ++ (UInt8.ofNat m.ty.toNat :: m.d))
theorem fput_no (m : MV) (w : World) (hl : m.d.length ≤ 9223372036854775000) (hL : LeastAt w) (hok : m.ok = false) :
    Calls Tryd.prog 32 #[m.val] w fun e w' => e = .returned (.tuple #[.slice none 0 0, .int .i64 30]) ∧ Below w.heap.size w w' := by
  have hb0 := below_a1 w (.cells m.cells 61)
  have hN0 := Blk.new w 61 m.cells
  have HC := Lib.hid (fcheck_any m _ hl (hL.below hb0))
  rw [MV.err_no hok] at HC
  obtain ⟨ty, A, c, d⟩ := m
  simp only [MV.val, MV.cells] at *
  clear hok hl hL
  go_enter Tryd.func32, Tryd.ntmps32
  go_wp2_with fail
  refine HC.out.mono ?_
  rintro e w1 ⟨rfl, hb⟩
  go_wp2_with fail
  go_ret2
  exact ⟨rfl, hb0.trans (hb.mono hb0.size)⟩

set_option maxRecDepth 10000 in
set_option maxHeartbeats 4000000 in
theorem fput_ok (m : MV) (w : World) (F : Nat → Prop) (hL : LeastAt w) (hok : m.ok = true) (hr : Reads w F m.A (m.d.map vb)) :
    Calls Tryd.prog 32 #[m.val] w fun e w' => ∃ v, e = .returned (.tuple #[v, .int .i64 0]) ∧ w'.ownsRow w.heap.size 5 1 v m.put.length (m.put.map vb) ∧ Below w.heap.size w w' := by
  have hin : (1 ≤ m.ty ∧ m.ty ≤ 4) ∧ m.d.length ≤ 4077 := by simp [MV.ok, fknownB, fitsF] at hok; omega
  obtain ⟨⟨g1, g4⟩, gd⟩ := hin
  have hb0 := below_a1 w (.cells m.cells 61)
  have hN0 := Blk.new w 61 m.cells
  have hr0 := hr.mono (G := (· < w.heap.size)) (fun _ hk _ => hk)
  have HC := Lib.hid (fcheck_any m _ (by omega) (hL.below hb0))
  rw [MV.err_ok hok] at HC
  have hput : m.put = flat [⟨none, 0, List.replicate 16 255⟩, ⟨none, 0, be 2 (19 + m.d.length)⟩, ⟨none, 0, [UInt8.ofNat m.ty.toNat]⟩, ⟨none, 0, m.d⟩] := by simp [MV.put, flat]
  have HPUT := Lib.hid hput
  have HVT := Lib.hid (vb_ofInt (n := m.ty) (by omega) (by omega))
  generalize m.put = mp at HPUT ⊢
  obtain ⟨ty, A, c, d⟩ := m
  simp only [MV.val, MV.cells] at *
  clear hok hL hr hput
  have e1 : IntKind.i64.wrap (19 + (d.length : Int)) = ((19 + d.length : Nat) : Int) := by rw [IntWalk.i64_in _ (by omega)]; omega
  have e2 : IntKind.u8.wrap ty = ty := IntWalk.u8_in _ (by omega)
  go_enter Tryd.func32, Tryd.ntmps32
  go_wp2_with fail
  refine HC.out.mono ?_
  rintro e w1 ⟨rfl, hb1⟩
  have hN1 := hN0.below hb1 hN0.lt
  have hB1 := hb0.trans (hb1.mono hb0.size)
  obtain ⟨c0, c1, -, -⟩ := (⟨by rw [hN1.cell 0]; rfl, by rw [hN1.cell 1]; rfl, trivial, trivial⟩ : w1.cell? ⟨w.heap.size, 0, none⟩ = some (.int .i64 ty) ∧ w1.cell? ⟨w.heap.size, 1, none⟩ = some (.slice A d.length c) ∧ True ∧ True)
  clear hN0 hb0 hb1
  go_wp2_with fail
  refine (put_ok2 (19 + d.length) _ (by omega)).mono ?_
  rintro e w2 ⟨v2, rfl, own2, hb2⟩
  have hN2 := hN1.below hb2 hN1.lt
  have hB2 := hB1.trans (hb2.mono hB1.size)
  obtain ⟨A2, c2, hv2, _, _, _, rd2⟩ := own_reads own2
  have hv2 : v2 = .slice A2 2 c2 := hv2
  subst hv2
  have rd2 : Reads w2 (· < w2.heap.size) A2 ((be 2 (19 + d.length)).map vb) := rd2.mono (fun _ hk _ => hk)
  have rdd : Reads w2 (· < w2.heap.size) A (d.map vb) := (hr0.below hB2 (fun _ _ h => h)).mono (fun _ hk _ => hk)
  clear hN1 hB1 own2 hb2 c0 c1 hr0
  have HCS := Lib.hid fun (W : World) (h : Below w2.heap.size w2 W) => (show W.cell? ⟨w.heap.size, 0, none⟩ = some (.int .i64 ty) ∧ W.cell? ⟨w.heap.size, 1, none⟩ = some (.slice A d.length c) from by
    have hN := hN2.below h hN2.lt
    exact ⟨by rw [hN.cell 0]; rfl, by rw [hN.cell 1]; rfl⟩)
  have hd0 : Below w2.heap.size w2 w2.drew := ⟨rfl, rfl, rfl, Nat.le_refl _, fun _ _ => rfl⟩
  have HD := Lib.hid fun (W : World) (h : Below w2.drew.heap.size w2.drew W) => (show Below w2.heap.size w2 W from hd0.trans h)
  have HRP := Lib.hid fun (W : World) (g : Nat) (h : Below w2.heap.size w2 W) (hg : Blk W g 5 #[.int .u8 255]) => (repeat_mark (some ⟨g, 0, none⟩) 1 (fun _ => True) W ((reads_of_blk hg).mono (fun _ _ _ => trivial))).mono fun e w' hh => (show ∃ A3 c3, e = .returned (.slice A3 16 c3) ∧ Hid (Reads w' (· < w'.heap.size) A3 ((List.replicate 16 (255 : UInt8)).map vb)) ∧ Below W.heap.size W w' ∧ Below w2.heap.size w2 w' from by
    obtain ⟨v, he, ho, hb⟩ := hh
    obtain ⟨A3, c3, hv, _, _, _, hrd⟩ := own_reads ho
    subst hv
    exact ⟨A3, c3, he, Lib.hid (hrd.mono (fun _ hk _ => hk)), hb, h.trans (hb.mono h.size)⟩)
  have HCC := Lib.hid fun (W W3 : World) (gR gt : Nat) (A3 : Option Addr) (c3 : Nat) (h3 : Below w2.heap.size w2 W3) (hW : Below W3.heap.size W3 W) (hR : Blk W gR 59 #[.slice A3 16 c3, .slice A2 2 c2, .slice (some ⟨gt, 0, none⟩) 1 1, .slice A d.length c]) (hrm : Hid (Reads W3 (· < W3.heap.size) A3 ((List.replicate 16 (255 : UInt8)).map vb))) (hT : Blk W gt 5 #[.int .u8 ty]) =>
    (concat_u8 (some ⟨gR, 0, none⟩) 4 [⟨A3, c3, List.replicate 16 255⟩, ⟨A2, c2, be 2 (19 + d.length)⟩, ⟨some ⟨gt, 0, none⟩, 1, [UInt8.ofNat ty.toNat]⟩, ⟨A, c, d⟩] (fun _ => True) W (by simp) (by simp [flat, be_length]; omega)
      ((reads_of_blk hR).mono (fun _ _ _ => trivial)) (fun r hrm' => by
        have hW2 := h3.trans (hW.mono h3.size)
        simp at hrm'
        rcases hrm' with rfl | rfl | rfl | rfl
        · exact (hrm.out.below hW (fun _ _ h => h)).mono (fun _ _ _ => trivial)
        · exact (rd2.below hW2 (fun _ _ h => h)).mono (fun _ _ _ => trivial)
        · have := (reads_of_blk hT).mono (G := fun _ => True) (fun _ _ _ => trivial)
          rw [← HVT.out] at this
          exact this
        · exact (rdd.below hW2 (fun _ _ h => h)).mono (fun _ _ _ => trivial))).mono fun e w' hh => (show ∃ v, e = .returned v ∧ Hid (w'.ownsRow w.heap.size 5 1 v mp.length (mp.map vb)) ∧ Below w.heap.size w w' ∧ Below w2.heap.size w2 w' from by
    obtain ⟨v, he, ho, hb⟩ := hh
    have hW2 := h3.trans (hW.mono h3.size)
    have hB3 := hB2.trans (hW2.mono hB2.size)
    have hf : flat [⟨A3, c3, List.replicate 16 255⟩, ⟨A2, c2, be 2 (19 + d.length)⟩, ⟨some ⟨gt, 0, none⟩, 1, [UInt8.ofNat ty.toNat]⟩, ⟨A, c, d⟩] = mp := by rw [HPUT.out]; rfl
    rw [hf] at ho
    exact ⟨v, he, Lib.hid (own_mono ho hB3.size), hB3.trans (hb.mono hB3.size), hW2.trans (hb.mono hW2.size)⟩)
  clear rd2 rdd hN2 hB2 hd0
  go_wp2_with fail
  go_region_held3 (fun W => W.cell? ⟨w.heap.size, 0, none⟩ = some (.int .i64 ty) ∧ W.cell? ⟨w.heap.size, 1, none⟩ = some (.slice A d.length c))
    (first | exact HCS.out _ hB4 | exact HCS.out _ (HD.out _ (Below.refl _ _)) | exact HCS.out _ (HD.out _ (below_a1 _ _)) | exact HCS.out _ (HD.out _ (below_a2 _ _ _)) | exact HCS.out _ hB3 | exact HCS.out _ (hB3.trans ((below_a1 _ _).mono hB3.size)) | exact HCS.out _ (hB3.trans ((below_a2 _ _ _).mono hB3.size)) | go_keep)
    (first | (go_at_call 87; refine (HRP.out _ _ (HD.out _ (by first | exact below_a1 _ _ | exact below_a2 _ _ _)) (by first | exact Blk.new _ _ _ | exact (Blk.new _ _ _).alloc _ | exact Blk.new1 _ _ _ _)).mono ?_; rintro e w3 ⟨A3, c3, rfl, hrm, hb3, hB3⟩) |
      (go_at_call 86; refine (HCC.out _ w3 _ _ _ _ hB3 (by first | exact below_a1 _ _ | exact below_a2 _ _ _) (by first | exact Blk.new _ _ _ | exact Blk.new1 _ _ _ _) hrm (by first | exact (Blk.new _ _ _).alloc _ | (refine ((Blk.below ?_ hb3 (by simp <;> omega)).alloc _); first | exact Blk.new _ _ _ | exact (Blk.new _ _ _).alloc _ | exact Blk.new1 _ _ _ _))).mono ?_; rintro e w4 ⟨v4, rfl, HO, hb4, hB4⟩))
  all_goals
    go_wp2_with fail
    go_ret2
    exact ⟨_, rfl, HO.out, hb4⟩
end Go.Proofs.YteokhnkipandbaaDoor
