/-
  What is monitored, by the document: Get. No condition but that bytes read as data. (Printed by program.)
-/
import Derived.Test.YtbmbpcibihddaaaDoorBmpRD
import Derived.Test.YtbmbpcibihddaaaDoorBmpV
import Derived.Test.YtbmbpcibihddaaaDoorBmpS
namespace Go.Proofs.YtbmbpcibihddaaaDoor
open Go.ChangeShapes Go.WideShapes Go.ChangeAt Go.RowKit

theorem run_op_cut_mid {P : Program} {o : Oper} {a : Act} (w : World) (t : TypeId) {x y z : Operand} {e : TypeId} (ho : o.op = .slice t x (some y) (some z) none) (ht : P.underlying t = some (.slice e)) (hs : (P.info? e).map (·.size) = some 1)
    (A : Option Addr) (len c k j : Nat) (hx : a.eval x = .slice A len c) (hy : a.eval y = .int .i64 (k : Int)) (hz : a.eval z = .int .i64 (j : Int)) (hk : k ≤ j) (hj : j ≤ c) : (execOp a.eval o).run P w = .ok (.value (.slice (cutA A c k) (j - k) (c - k))) w := by
  unfold execOp
  simp only [ho, Option.map_some, Option.map_none, hx, hy, hz, Sem.run_bind, Result.andThen_ok, run_cut_mid w t e ht hs A len c k j hk hj, Sem.run_pure]
/-- what it leaves -/
structure RGetEnd (w : World) (l : List UInt8) (e : Ending) (w' : World) : Prop where
  no : bget l = none → e = .returned (.tuple #[.agg (mon0 0).cells, .int .i64 0, .bool false])
  yes : ∀ (d : MD) (n : Nat), bget l = some (d, n) → ∃ m : MoV, m.d = d ∧ e = .returned (.tuple #[m.val, .int .i64 n, .bool true]) ∧ m.Rd w' (fun k => w.heap.size ≤ k)
  bel : Below w.heap.size w w'
set_option maxRecDepth 20000 in
set_option maxHeartbeats 16000000 in
theorem rgetB_any (A : Option Addr) (c : Nat) (l : List UInt8) (F : Nat → Prop) (w : World) (hlc : l.length ≤ c) (hl : l.length ≤ 100000) (hr : Reads w F A (l.map vb)) :
    Calls Tryd.prog 23 #[.slice A l.length c] w (RGetEnd w l) := by
  have hsz : (Tryd.prog.info? 5).map (·.size) = some 1 := by kernel_rfl
  have hb0 := below_a1 w (.cells (mon0 0).cells 45)
  have HZ0 := Lib.hid (Blk.new w 45 (mon0 0).cells)
  have HB0 := Lib.hid hb0
  have hr0 := hr.mono (G := (· < w.heap.size)) (fun _ h _ => h)
  have HR0 := Lib.hid hr0
  have HEQ := Lib.hid (show bget l = if bhd l then if (bread read2 l).ok && decide ((bread read2 l).put = l.take (bN l)) then some (bread read2 l, bN l) else none else none from by rw [← rget_eq]; rfl)
  have HBH := Lib.hid (show bhd l = (decide (6 ≤ l.length) && decide (l.getD 0 0 = 3) && decide (6 ≤ bN l) && decide (bN l ≤ l.length)) from rfl)
  clear hb0 hr
  by_cases h6 : l.length < 6
  · have HBG := Lib.hid (show bget l = none from by rw [HEQ.out, HBH.out]; simp [show ¬ 6 ≤ l.length by omega])
    have h6' : (l.length : Int) < 6 := by omega
    go_enter Tryd.func23, Tryd.ntmps23
    go_wp2_with (refine wpList_store_blk (by rfl) 45 (.tmp 2) (.tmp 16) rfl w.heap.size (mon0 0).cells (by rfl) (by rfl) 45 _ HZ0.out (by kernel_rfl) (by rfl) (mon_one _) ?_)
    refine bodyPost_ret (results_cell_tmp_tmp rfl _ _ w.heap.size 45 (mon0 0).cells (0, 0) _ (by rfl) (HZ0.out.setRow_ _) Tryd.underlying45 rfl (by kernel_rfl)) rfl ?_
    exact ⟨fun _ => rfl, fun d n h => (by rw [HBG.out] at h; cases h), below_setRow HB0.out (Nat.le_refl _) _⟩
  have h6' : ¬ (l.length : Int) < 6 := by omega
  obtain ⟨b0, off, rfl, _, hbw, h0c⟩ := hr0.at_ (k := 0) (by simp; omega)
  simp only [List.getElem_map, vb, Nat.add_zero] at h0c
  obtain ⟨b5, off5, e5, _, hbw5, h5c⟩ := hr0.at_ (k := 5) (by simp; omega)
  injection e5 with e5
  injection e5 with e5 e5'
  subst e5 e5'
  simp only [List.getElem_map, vb] at h5c
  obtain ⟨v0, hv0⟩ : ∃ v0 : Nat, l[0].toNat = v0 := ⟨_, rfl⟩
  obtain ⟨kn, hkn⟩ : ∃ kn : Nat, l[5].toNat = kn := ⟨_, rfl⟩
  have hkn256 : kn < 256 := by rw [← hkn]; exact l[5].toNat_lt
  have hwk : IntKind.i64.wrap (kn : Int) = (kn : Int) := IntWalk.i64_in _ (by omega)
  rw [hv0] at h0c
  have hbw' : b0 ≠ w.heap.size := by omega
  rw [hkn] at h5c
  have H5C := Lib.hid h5c
  have HV0 := Lib.hid (show (l.getD 0 0).toNat = v0 from by rw [getD_of (show 0 < l.length by omega)]; exact hv0)
  have HKN := Lib.hid (show (l.getD 5 0).toNat = kn from by rw [getD_of (show 5 < l.length by omega)]; exact hkn)
  obtain ⟨A, hA⟩ : ∃ A, (some ⟨b0, off, none⟩ : Option Addr) = A := ⟨_, rfl⟩
  have hl4 : ((l.drop 1).take 4).length = 4 := by simp; omega
  have hrc : Reads (w.alloc (.cells (mon0 0).cells 45)) (fun _ => True) (cutA (some ⟨b0, off, none⟩) c 1) (((l.drop 1).take 4).map vb) := by
    have h := ((hr0.alloc (.cells (mon0 0).cells 45)).cut (c := c) (by simpa using hlc) 1).take 4
    rw [← List.map_drop, ← List.map_take] at h
    exact h.mono (fun _ _ _ => trivial)
  have HGT := rget_ok (cutA (some ⟨b0, off, none⟩) c 1) (c - 1) _ _ _ (by rw [hl4]; omega) hrc
  rw [hl4] at HGT
  obtain ⟨n, hn⟩ : ∃ n, ofBe ((l.drop 1).take 4) = n := ⟨_, rfl⟩
  rw [hn] at HGT
  have HN := Lib.hid (show bN l = n from hn)
  have HGT := Lib.hid HGT
  have hlpos : (0 : Int) < (l.length : Int) := by omega
  have hc5 : 5 ≤ c := by omega
  clear hr0 h5c hv0 hkn hl4 hrc hn hA
  by_cases h3 : v0 = 3
  case neg =>
    have HBG := Lib.hid (show bget l = none from by
      rw [HEQ.out, HBH.out]
      have : ¬ l.getD 0 0 = 3 := fun e => h3 (by rw [← HV0.out, e]; rfl)
      simp only [this, decide_false, Bool.and_false, Bool.false_and, Bool.false_eq_true, if_false])
    have h3' : ¬ (v0 : Int) = 3 := by omega
    go_enter Tryd.func23, Tryd.ntmps23
    go_wp2_with (refine wpList_store_blk (by rfl) 45 (.tmp 2) (.tmp 16) rfl w.heap.size (mon0 0).cells (by rfl) (by rfl) 45 _ HZ0.out (by kernel_rfl) (by rfl) (mon_one _) ?_)
    refine bodyPost_ret (results_cell_tmp_tmp rfl _ _ w.heap.size 45 (mon0 0).cells (0, 0) _ (by rfl) (HZ0.out.setRow_ _) Tryd.underlying45 rfl (by kernel_rfl)) rfl ?_
    exact ⟨fun _ => rfl, fun d n h => (by rw [HBG.out] at h; cases h), below_setRow HB0.out (Nat.le_refl _) _⟩
  subst h3
  have hcut : (1 : Nat) ≤ 5 := by omega
  have CUT := Lib.hid hcut
  go_enter Tryd.func23, Tryd.ntmps23
  go_wp2_with (refine wpList_cut_mid (by rfl) 25 5 (.tmp 17) (.const (.int .i64 1)) (.const (.int .i64 5)) rfl Tryd.underlying25 hsz (some ⟨b0, off, none⟩) l.length c 1 5 1 5 (by rfl) (by rfl) (by rfl) rfl rfl (by omega) hc5 ?_)
  refine HGT.out.mono ?_
  rintro e wq ⟨rfl, rfl⟩
  by_cases h7 : n < 6
  · have HBG := Lib.hid (show bget l = none from by
      rw [HEQ.out, HBH.out, HN.out]
      simp only [show ¬ 6 ≤ n by omega, decide_false, Bool.and_false, Bool.false_and, Bool.false_eq_true, if_false])
    have h7' : (n : Int) < 6 := by omega
    go_wp2_with (refine wpList_store_blk (by rfl) 45 (.tmp 2) (.tmp 28) rfl w.heap.size (mon0 0).cells (by rfl) (by rfl) 45 _ HZ0.out (by kernel_rfl) (by rfl) (mon_one _) ?_)
    refine bodyPost_ret (results_cell_tmp_tmp rfl _ _ w.heap.size 45 (mon0 0).cells (0, 0) _ (by rfl) (HZ0.out.setRow_ _) Tryd.underlying45 rfl (by kernel_rfl)) rfl ?_
    exact ⟨fun _ => rfl, fun d n h => (by rw [HBG.out] at h; cases h), below_setRow HB0.out (Nat.le_refl _) _⟩
  have h7' : ¬ (n : Int) < 6 := by omega
  by_cases h8 : l.length < n
  · have HBG := Lib.hid (show bget l = none from by
      rw [HEQ.out, HBH.out, HN.out]
      simp only [show ¬ n ≤ l.length by omega, decide_false, Bool.and_false, Bool.false_eq_true, if_false])
    have h8' : (l.length : Int) < n := by omega
    go_wp2_with (refine wpList_store_blk (by rfl) 45 (.tmp 2) (.tmp 28) rfl w.heap.size (mon0 0).cells (by rfl) (by rfl) 45 _ HZ0.out (by kernel_rfl) (by rfl) (mon_one _) ?_)
    refine bodyPost_ret (results_cell_tmp_tmp rfl _ _ w.heap.size 45 (mon0 0).cells (0, 0) _ (by rfl) (HZ0.out.setRow_ _) Tryd.underlying45 rfl (by kernel_rfl)) rfl ?_
    exact ⟨fun _ => rfl, fun d n h => (by rw [HBG.out] at h; cases h), below_setRow HB0.out (Nat.le_refl _) _⟩
  have h8' : ¬ (l.length : Int) < n := by omega
  have hn6 : 6 ≤ n := by omega
  have hnc : n ≤ c := by omega
  have HBHT := Lib.hid (show bhd l = true from by
    rw [HBH.out, HN.out]
    have h3 : l.getD 0 0 = 3 := UInt8.toNat_inj.1 (by rw [HV0.out]; rfl)
    rw [h3]
    simp
    omega)
  have HBR := Lib.hid (show bread read2 l = read2 kn ((l.take n).drop 6) from by unfold bread; rw [HN.out, HKN.out])
  have HEQ2 := Lib.hid (show bget l = if (bread read2 l).ok && decide ((bread read2 l).put = l.take n) then some (bread read2 l, n) else none from by rw [HEQ.out, if_pos HBHT.out, HN.out])
  have hlb : ((l.take n).drop 6).length = n - 6 := by simp; omega
  have HTR := Lib.hid fun (W W' : World) (h : Below (w.alloc (.cells (mon0 0).cells 45)).heap.size (w.alloc (.cells (mon0 0).cells 45)) W) (hb : Below W.heap.size W W') => h.trans (hb.mono h.size)
  have HF := Lib.hid fun (W : World) (h : Below (w.alloc (.cells (mon0 0).cells 45)).heap.size (w.alloc (.cells (mon0 0).cells 45)) W) => HB0.out.trans (h.mono HB0.out.size)
  have H5S := Lib.hid fun (W : World) (h : Below (w.alloc (.cells (mon0 0).cells 45)).heap.size (w.alloc (.cells (mon0 0).cells 45)) W) => (show W.cell? ⟨b0, off + 5, none⟩ = some (.int .u8 (kn : Int)) from ((HF.out W h).cell (p := ⟨b0, off + 5, none⟩) hbw).trans H5C.out)
  have HRD := Lib.hid fun (W : World) (h : Below (w.alloc (.cells (mon0 0).cells 45)).heap.size (w.alloc (.cells (mon0 0).cells 45)) W) => (show Calls Tryd.prog 56 #[.int .i64 kn, .slice (cutA (some ⟨b0, off, none⟩) c 6) (n - 6) (c - 6)] W (fun e w' => ∃ m : MoV, m.d = read2 kn ((l.take n).drop 6) ∧ e = .returned m.val ∧ m.Rd w' (fun k => W.heap.size ≤ k) ∧ Below W.heap.size W w') from by
    have h1 := ((HR0.out.below (HF.out W h) (fun _ _ h => h)).take n).cut (c := c) (by simp; omega) 6
    rw [← List.map_take, ← List.map_drop] at h1
    have h2 := rread_any kn (cutA (some ⟨b0, off, none⟩) c 6) (c - 6) _ _ W (by rw [hlb]; omega) h1
    rwa [hlb] at h2)
  have hB0 : Below (w.alloc (.cells (mon0 0).cells 45)).heap.size (w.alloc (.cells (mon0 0).cells 45)) (w.alloc (.cells (mon0 0).cells 45)).drew := ⟨rfl, rfl, rfl, Nat.le_refl _, fun _ _ => rfl⟩
  have hl5 : (5 : Int) < (l.length : Int) := by omega
  go_upto_region 6 with fail
  go_cut [6] (fun v wx => ∃ (g : Nat) (m : MoV), v = .pointer (some ⟨g, 0, none⟩) ∧ m.d = read2 kn ((l.take n).drop 6) ∧ Blk wx g 45 m.cells ∧ m.Rd wx (fun k => w.heap.size < k) ∧ Below (w.alloc (.cells (mon0 0).cells 45)).heap.size (w.alloc (.cells (mon0 0).cells 45)) wx ∧ w.heap.size < g)
  case first =>
    refine wp_region_held_drew (S := (fun W => W.cell? ⟨b0, off + 5, none⟩ = some (.int .u8 (kn : Int)))) (by kernel_rfl) (H5S.out _ hB0) (fun hHeld => ?_)
    refine wpAnyH_take (i := 0) (v := ?_) (by first | (simp only [List.getElem?_toArray, List.getElem?_cons_zero]; done) | (simp only [List.getElem?_toArray, List.getElem?_cons_zero]; rfl)) (by kernel_rfl) (by kernel_rfl) (by kernel_rfl) (by exact fun _ _ _ h => h) (Or.inl ⟨by rfl, ?_⟩) (by assumption) ?_
    rotate_left
    · (intro w hSw; (try dsimp only at hSw); first | (go_simp; done) | (go_simp; with_reducible rfl))
    simp only [Act.put, List.setIfInBounds_toArray, List.set_cons_zero, List.set_cons_succ]
    refine wpAnyH_take (i := 1) (v := ?_) (by first | (simp only [List.getElem?_toArray, List.getElem?_cons_succ, List.getElem?_cons_zero]; done) | (simp only [List.getElem?_toArray, List.getElem?_cons_succ, List.getElem?_cons_zero]; rfl)) (by kernel_rfl) (by kernel_rfl) (by kernel_rfl) (by exact fun _ _ _ h => h) (Or.inl ⟨by rfl, ?_⟩) (by assumption) ?_
    rotate_left
    · (intro w hSw; (try dsimp only at hSw); first | (go_simp; done) | (go_simp; with_reducible rfl))
    simp only [Act.put, List.setIfInBounds_toArray, List.set_cons_zero, List.set_cons_succ]
    refine wpAnyH_take (i := 2) (v := ?_) (by first | (simp only [List.getElem?_toArray, List.getElem?_cons_succ, List.getElem?_cons_zero]; done) | (simp only [List.getElem?_toArray, List.getElem?_cons_succ, List.getElem?_cons_zero]; rfl)) (by kernel_rfl) (by kernel_rfl) (by kernel_rfl) (by exact fun _ _ _ h => h) (Or.inl ⟨by rfl, ?_⟩) (by assumption) ?_
    rotate_left
    · (intro w hSw; (try dsimp only at hSw); first | (go_simp; done) | (go_simp; with_reducible rfl))
    simp only [Act.put, List.setIfInBounds_toArray, List.set_cons_zero, List.set_cons_succ]
    refine wpAnyH_take (i := 3) (v := ?_) (by first | (simp only [List.getElem?_toArray, List.getElem?_cons_succ, List.getElem?_cons_zero]; done) | (simp only [List.getElem?_toArray, List.getElem?_cons_succ, List.getElem?_cons_zero]; rfl)) (by kernel_rfl) (by kernel_rfl) (by kernel_rfl) (by exact fun _ _ _ h => h) (Or.inl ⟨by rfl, ?_⟩) (by assumption) ?_
    rotate_left
    · (intro w hSw; (try dsimp only at hSw); first | (go_simp; done) | (go_simp; with_reducible rfl))
    simp only [Act.put, List.setIfInBounds_toArray, List.set_cons_zero, List.set_cons_succ]
    refine wpAnyH_take (i := 4) (v := ?_) (by first | (simp only [List.getElem?_toArray, List.getElem?_cons_succ, List.getElem?_cons_zero]; done) | (simp only [List.getElem?_toArray, List.getElem?_cons_succ, List.getElem?_cons_zero]; rfl)) (by kernel_rfl) (by kernel_rfl) (by kernel_rfl) (by exact fun _ _ _ h => h) (Or.inl ⟨by rfl, ?_⟩) (by assumption) ?_
    rotate_left
    · (intro w hSw; (try dsimp only at hSw); first | (go_simp; done) | (go_simp; with_reducible rfl))
    simp only [Act.put, List.setIfInBounds_toArray, List.set_cons_zero, List.set_cons_succ]
    refine wpAnyH_take (i := 5) (v := ?_) (by first | (simp only [List.getElem?_toArray, List.getElem?_cons_succ, List.getElem?_cons_zero]; done) | (simp only [List.getElem?_toArray, List.getElem?_cons_succ, List.getElem?_cons_zero]; rfl)) (by kernel_rfl) (by kernel_rfl) (by kernel_rfl) (by exact fun _ _ _ h => h) (Or.inl ⟨by rfl, ?_⟩) (by assumption) ?_
    rotate_left
    · (intro w hSw; (try dsimp only at hSw); first | (go_simp; done) | (go_simp; with_reducible rfl))
    simp only [Act.put, List.setIfInBounds_toArray, List.set_cons_zero, List.set_cons_succ]
    refine wpAnyH_take (i := 6) (v := .slice (cutA (some ⟨b0, off, none⟩) c 6) (n - 6) (c - 6)) (by first | (simp only [List.getElem?_toArray, List.getElem?_cons_succ, List.getElem?_cons_zero]; done) | (simp only [List.getElem?_toArray, List.getElem?_cons_succ, List.getElem?_cons_zero]; rfl)) (by kernel_rfl) (by kernel_rfl) (by kernel_rfl) (by exact fun _ _ _ h => h) (Or.inl ⟨by rfl, ?_⟩) (by assumption) ?_
    · intro W _; exact run_op_cut_mid W _ (by rfl) Tryd.underlying25 hsz _ l.length c 6 n (by rfl) (by rfl) (by rfl) hn6 hnc
    simp only [Act.put, List.setIfInBounds_toArray, List.set_cons_zero, List.set_cons_succ]
    refine wpAnyH_ready (rs := [7, 8]) (by kernel_rfl) (by simp) ?_
    refine AllReadyH.cons (by first | (simp only [List.getElem?_toArray, List.getElem?_cons_succ, List.getElem?_cons_zero]; done) | (simp only [List.getElem?_toArray, List.getElem?_cons_succ, List.getElem?_cons_zero]; rfl)) (fun K hK => ?_) ?_
    · go_simp
      refine (HRD.out _ hB0).mono ?_
      rintro e w5 ⟨m, hmd, rfl, hmr, hb5⟩
      have hB5 := HTR.out _ _ hB0 hb5
      simp only [MoV.val]
      go_wp2_with fail
      refine hK.out _ _ (H5S.out _ hB5) (fun hHeld => ?_)
      clear hK K
      try simp only [Act.put, List.setIfInBounds_toArray, List.set_cons_zero, List.set_cons_succ]
      refine wpAnyH_ready (rs := [8]) (by kernel_rfl) (by simp) ?_
      refine AllReadyH.cons (by first | (simp only [List.getElem?_toArray, List.getElem?_cons_succ, List.getElem?_cons_zero]; done) | (simp only [List.getElem?_toArray, List.getElem?_cons_succ, List.getElem?_cons_zero]; rfl)) (fun K hK => ?_) AllReadyH.nil
      go_simp
      have b6 := below_a1 w5 (.cells (mon0 0).cells 45)
      have hB6 := HTR.out _ _ hB5 b6
      refine hK.out _ _ (H5S.out _ hB6) (fun hHeld => ?_)
      clear hK K
      try simp only [Act.put, List.setIfInBounds_toArray, List.set_cons_zero, List.set_cons_succ]
      refine wpAnyH_ready (rs := [9]) (by kernel_rfl) (by simp) ?_
      refine AllReadyH.cons (by first | (simp only [List.getElem?_toArray, List.getElem?_cons_succ, List.getElem?_cons_zero]; done) | (simp only [List.getElem?_toArray, List.getElem?_cons_succ, List.getElem?_cons_zero]; rfl)) (fun K hK => ?_) AllReadyH.nil
      rw [if_pos (by rfl)]
      refine wp_store_row 45 (.tmp 6) (.tmp 36) rfl w5.heap.size m.cells (by rfl) (by rfl) 45 _ (Blk.new w5 45 (mon0 0).cells) (by kernel_rfl) (by rfl) (mon_one _) ?_
      have hB7 := HTR.out _ _ hB5 (below_setRow b6 (g := w5.heap.size) (Nat.le_refl _) m.cells)
      refine hK.out _ _ (H5S.out _ hB7) (fun hHeld => ?_)
      clear hK K
      try simp only [Act.put]
      refine wpAnyH_done (by kernel_rfl) ?_ _
      go_wp2_with fail
      go_meet
      exact ⟨w5.heap.size, m, rfl, hmd, (Blk.new w5 45 (mon0 0).cells).setRow_ _, ((((hmr.mono (G := fun k => w.heap.size < k ∧ k < w5.heap.size) (fun k hl hk => ⟨by simp at hk; omega, hl⟩)).alloc (.cells (mon0 0).cells 45)).only (only_setRow _ w5.heap.size m.cells) (fun k _ hk e => by omega)).mono (fun k _ hk => hk.1)), hB7, by have := hB5.size; simp at this; omega⟩
    refine AllReadyH.cons (by first | (simp only [List.getElem?_toArray, List.getElem?_cons_succ, List.getElem?_cons_zero]; done) | (simp only [List.getElem?_toArray, List.getElem?_cons_succ, List.getElem?_cons_zero]; rfl)) (fun K hK => ?_) AllReadyH.nil
    go_simp
    have hBz : Below (w.alloc (.cells (mon0 0).cells 45)).heap.size (w.alloc (.cells (mon0 0).cells 45)) ((w.alloc (.cells (mon0 0).cells 45)).alloc (.cells (mon0 0).cells 45)).drew := (below_a1 (w.alloc (.cells (mon0 0).cells 45)) (.cells (mon0 0).cells 45)).drew
    refine hK.out _ _ (H5S.out _ hBz) (fun hHeld => ?_)
    clear hK K
    try simp only [Act.put, List.setIfInBounds_toArray, List.set_cons_zero, List.set_cons_succ]
    refine wpAnyH_ready (rs := [7]) (by kernel_rfl) (by simp) ?_
    refine AllReadyH.cons (by first | (simp only [List.getElem?_toArray, List.getElem?_cons_succ, List.getElem?_cons_zero]; done) | (simp only [List.getElem?_toArray, List.getElem?_cons_succ, List.getElem?_cons_zero]; rfl)) (fun K hK => ?_) AllReadyH.nil
    go_simp
    refine (HRD.out _ hBz).mono ?_
    rintro e w5 ⟨m, hmd, rfl, hmr, hb5⟩
    have hB5 := HTR.out _ _ hBz hb5
    have hK5 : Blk w5 (w.heap.size + 1) 45 (mon0 0).cells := by have h := (Blk.new (w.alloc (.cells (mon0 0).cells 45)) 45 (mon0 0).cells).below (show Below ((w.alloc (.cells (mon0 0).cells 45)).alloc (.cells (mon0 0).cells 45)).heap.size ((w.alloc (.cells (mon0 0).cells 45)).alloc (.cells (mon0 0).cells 45)) w5 from ⟨hb5.os, hb5.tape, hb5.output, hb5.size, hb5.block⟩) (Blk.new (w.alloc (.cells (mon0 0).cells 45)) 45 (mon0 0).cells).lt; rwa [World.size_alloc] at h
    simp only [MoV.val]
    go_wp2_with fail
    refine hK.out _ _ (H5S.out _ hB5) (fun hHeld => ?_)
    clear hK K
    try simp only [Act.put, List.setIfInBounds_toArray, List.set_cons_zero, List.set_cons_succ]
    refine wpAnyH_ready (rs := [9]) (by kernel_rfl) (by simp) ?_
    refine AllReadyH.cons (by first | (simp only [List.getElem?_toArray, List.getElem?_cons_succ, List.getElem?_cons_zero]; done) | (simp only [List.getElem?_toArray, List.getElem?_cons_succ, List.getElem?_cons_zero]; rfl)) (fun K hK => ?_) AllReadyH.nil
    rw [if_pos (by rfl)]
    refine wp_store_row 45 (.tmp 6) (.tmp 36) rfl (w.heap.size + 1) m.cells (by rfl) (by rfl) 45 _ hK5 (by kernel_rfl) (by rfl) (mon_one _) ?_
    have hB7 : Below (w.alloc (.cells (mon0 0).cells 45)).heap.size (w.alloc (.cells (mon0 0).cells 45)) (w5.setRow (w.heap.size + 1) m.cells) := below_setRow hB5 (g := w.heap.size + 1) (by simp) m.cells
    refine hK.out _ _ (H5S.out _ hB7) (fun hHeld => ?_)
    clear hK K
    try simp only [Act.put]
    refine wpAnyH_done (by kernel_rfl) ?_ _
    go_wp2_with fail
    go_meet
    exact ⟨w.heap.size + 1, m, rfl, hmd, hK5.setRow_ _, (((hmr.mono (G := fun k => w.heap.size + 1 < k) (fun k hl hk => by simp at hk; omega)).only (only_setRow _ (w.heap.size + 1) m.cells) (fun k _ hk e => by omega)).mono (fun k _ hk => by omega)), hB7, by omega⟩
  case rest =>
    obtain ⟨g, m, rfl, hmd, hmb, hmr, hbx, hgw⟩ := hcut
    have HMD := Lib.hid (HBR.out.trans hmd.symm)
    have HM := Lib.hid hmb
    have HZC := Lib.hid (HZ0.out.below hbx HZ0.out.lt)
    have HFC := Lib.hid fun (W : World) (h : Below wc.heap.size wc W) => (HF.out _ hbx).trans (h.mono (HF.out _ hbx).size)
    have HMR := Lib.hid (hmr.mono (G := fun k => w.heap.size < k ∧ k < wc.heap.size) (fun k hl hk => ⟨hk, hl⟩))
    have HU32 := Lib.hid (show m.d.u32 from by rw [hmd]; exact read2_u32 _ _)
    have HTR := Lib.hid fun (W W' : World) (h : Below wc.heap.size wc W) (hb : Below W.heap.size W W') => h.trans (hb.mono h.size)
    have HRC := Lib.hid fun (W : World) (h : Below wc.heap.size wc W) => rcheck_any m W _ (HMR.out.below h (fun _ _ h => h.2))
    have hlt : (l.take n).length = n := by simp; omega
    obtain ⟨qb, hqb⟩ : ∃ qb, qb = str (l.take n) := ⟨_, rfl⟩
    have HCV := Lib.hid fun (W : World) (h : Below wc.heap.size wc W) => (show (convert 25 9 (.slice (some ⟨b0, off, none⟩) n c)).run Tryd.prog W = .ok (.string qb) W from by
      have h1 := (HR0.out.below (HFC.out W h) (fun _ _ h => h)).take n
      rw [← List.map_take] at h1
      rw [hqb]
      exact own_str2 h1 hlt)
    have hncI : (n : Int) ≤ (c : Int) := by omega
    have hnpI : (0 : Int) ≤ (n : Int) := by omega
    clear hbx hmd hmb hmr HF HRD H5S
    cases hok : m.d.ok with
    | false =>
      have HBG := Lib.hid (show bget l = none from by rw [HEQ2.out, HMD.out, hok]; rfl)
      rw [hok] at HRC
      clear hok HMD HU32
      obtain ⟨kind, id, addr, asn, time, reason, own, sA, sc, sent, cA, cc, came, text⟩ := m
      simp only [MoV.val, MoV.cells] at *
      generalize hsl : sent.length = sl at *
      generalize hcl : came.length = cl at *
      generalize htx : str text = tx at *
      have HSL := Lib.hid hsl
      have HCL := Lib.hid hcl
      have HTX := Lib.hid htx
      clear hsl hcl htx
      have HCS := Lib.hid fun (W : World) (h : Below wc.heap.size wc W) => (show W.cell? ⟨g, 0, none⟩ = some (.int .i64 kind) ∧ W.cell? ⟨g, 1, none⟩ = some (.int .u32 id) ∧ W.cell? ⟨g, 2, none⟩ = some (.int .u32 addr) ∧ W.cell? ⟨g, 3, none⟩ = some (.int .i64 asn) ∧ W.cell? ⟨g, 4, none⟩ = some (.int .i64 time) ∧ W.cell? ⟨g, 5, none⟩ = some (.int .i64 reason) ∧ W.cell? ⟨g, 6, none⟩ = some (.int .u32 own) ∧ W.cell? ⟨g, 7, none⟩ = some (.slice sA sl sc) ∧ W.cell? ⟨g, 8, none⟩ = some (.slice cA cl cc) ∧ W.cell? ⟨g, 9, none⟩ = some (.string tx) ∧ (convert 25 9 (.slice (some ⟨b0, off, none⟩) n c)).run Tryd.prog W = .ok (.string qb) W from by
        obtain ⟨p0, p1, p2, p3, p4, p5, p6, p7, p8, p9⟩ := blk10 (HM.out.below h HM.out.lt)
        exact ⟨p0, p1, p2, p3, p4, p5, p6, p7, p8, p9, HCV.out W h⟩)
      have hB0 : Below wc.heap.size wc wc.drew := ⟨rfl, rfl, rfl, Nat.le_refl _, fun _ _ => rfl⟩
      go_upto_region 7 with fail
      refine wp_region_held_drew (S := (fun W => W.cell? ⟨g, 0, none⟩ = some (.int .i64 kind) ∧ W.cell? ⟨g, 1, none⟩ = some (.int .u32 id) ∧ W.cell? ⟨g, 2, none⟩ = some (.int .u32 addr) ∧ W.cell? ⟨g, 3, none⟩ = some (.int .i64 asn) ∧ W.cell? ⟨g, 4, none⟩ = some (.int .i64 time) ∧ W.cell? ⟨g, 5, none⟩ = some (.int .i64 reason) ∧ W.cell? ⟨g, 6, none⟩ = some (.int .u32 own) ∧ W.cell? ⟨g, 7, none⟩ = some (.slice sA sl sc) ∧ W.cell? ⟨g, 8, none⟩ = some (.slice cA cl cc) ∧ W.cell? ⟨g, 9, none⟩ = some (.string tx) ∧ (convert 25 9 (.slice (some ⟨b0, off, none⟩) n c)).run Tryd.prog W = .ok (.string qb) W)) (by kernel_rfl) (HCS.out _ hB0) (fun hHeld => ?_)
      refine wpAnyH_take (i := 0) (v := ?_) (by first | (simp only [List.getElem?_toArray, List.getElem?_cons_zero]; done) | (simp only [List.getElem?_toArray, List.getElem?_cons_zero]; rfl)) (by kernel_rfl) (by kernel_rfl) (by kernel_rfl) (by exact fun _ _ _ h => h) (Or.inl ⟨by rfl, ?_⟩) (by assumption) ?_
      rotate_left
      · (intro w hSw; (try dsimp only at hSw); first | (go_simp; done) | (go_simp; with_reducible rfl))
      simp only [Act.put, List.setIfInBounds_toArray, List.set_cons_zero, List.set_cons_succ]
      refine wpAnyH_ready (rs := [1]) (by kernel_rfl) (by simp) ?_
      refine AllReadyH.cons (by first | (simp only [List.getElem?_toArray, List.getElem?_cons_succ, List.getElem?_cons_zero]; done) | (simp only [List.getElem?_toArray, List.getElem?_cons_succ, List.getElem?_cons_zero]; rfl)) (fun K hK => ?_) AllReadyH.nil
      go_simp
      refine (HRC.out _ hB0).mono ?_
      rintro e W6 ⟨rfl, hb6⟩
      have hB6 := HTR.out _ _ hB0 hb6
      go_wp2_with fail
      refine hK.out _ _ (HCS.out _ hB6) (fun hHeld => ?_)
      clear hK K
      try simp only [Act.put, List.setIfInBounds_toArray, List.set_cons_zero, List.set_cons_succ]
      refine wpAnyH_take (i := 2) (v := ?_) (by first | (simp only [List.getElem?_toArray, List.getElem?_cons_succ, List.getElem?_cons_zero]; done) | (simp only [List.getElem?_toArray, List.getElem?_cons_succ, List.getElem?_cons_zero]; rfl)) (by kernel_rfl) (by kernel_rfl) (by kernel_rfl) (by exact fun _ _ _ h => h) (Or.inl ⟨by rfl, ?_⟩) (by assumption) ?_
      rotate_left
      · (intro w hSw; (try dsimp only at hSw); first | (go_simp; done) | (go_simp; with_reducible rfl))
      simp only [Act.put, List.setIfInBounds_toArray, List.set_cons_zero, List.set_cons_succ]
      refine wpAnyH_take (i := 3) (v := ?_) (by first | (simp only [List.getElem?_toArray, List.getElem?_cons_succ, List.getElem?_cons_zero]; done) | (simp only [List.getElem?_toArray, List.getElem?_cons_succ, List.getElem?_cons_zero]; rfl)) (by kernel_rfl) (by kernel_rfl) (by kernel_rfl) (by exact fun _ _ _ h => h) (Or.inl ⟨by rfl, ?_⟩) (by assumption) ?_
      rotate_left
      · (intro w hSw; (try dsimp only at hSw); first | (go_simp; done) | (go_simp; with_reducible rfl))
      simp only [Act.put, List.setIfInBounds_toArray, List.set_cons_zero, List.set_cons_succ]
      refine wpAnyH_take (i := 4) (v := undef) (by first | (simp only [List.getElem?_toArray, List.getElem?_cons_succ, List.getElem?_cons_zero]; done) | (simp only [List.getElem?_toArray, List.getElem?_cons_succ, List.getElem?_cons_zero]; rfl)) (by kernel_rfl) (by kernel_rfl) (by kernel_rfl) (by exact fun _ _ _ h => h) (Or.inr ⟨by rfl, rfl⟩) (by assumption) ?_
      simp only [Act.put, List.setIfInBounds_toArray, List.set_cons_zero, List.set_cons_succ]
      refine wpAnyH_take (i := 5) (v := undef) (by first | (simp only [List.getElem?_toArray, List.getElem?_cons_succ, List.getElem?_cons_zero]; done) | (simp only [List.getElem?_toArray, List.getElem?_cons_succ, List.getElem?_cons_zero]; rfl)) (by kernel_rfl) (by kernel_rfl) (by kernel_rfl) (by exact fun _ _ _ h => h) (Or.inr ⟨by rfl, rfl⟩) (by assumption) ?_
      simp only [Act.put, List.setIfInBounds_toArray, List.set_cons_zero, List.set_cons_succ]
      refine wpAnyH_take (i := 6) (v := undef) (by first | (simp only [List.getElem?_toArray, List.getElem?_cons_succ, List.getElem?_cons_zero]; done) | (simp only [List.getElem?_toArray, List.getElem?_cons_succ, List.getElem?_cons_zero]; rfl)) (by kernel_rfl) (by kernel_rfl) (by kernel_rfl) (by exact fun _ _ _ h => h) (Or.inr ⟨by rfl, rfl⟩) (by assumption) ?_
      simp only [Act.put, List.setIfInBounds_toArray, List.set_cons_zero, List.set_cons_succ]
      refine wpAnyH_take (i := 7) (v := undef) (by first | (simp only [List.getElem?_toArray, List.getElem?_cons_succ, List.getElem?_cons_zero]; done) | (simp only [List.getElem?_toArray, List.getElem?_cons_succ, List.getElem?_cons_zero]; rfl)) (by kernel_rfl) (by kernel_rfl) (by kernel_rfl) (by exact fun _ _ _ h => h) (Or.inr ⟨by rfl, rfl⟩) (by assumption) ?_
      simp only [Act.put, List.setIfInBounds_toArray, List.set_cons_zero, List.set_cons_succ]
      refine wpAnyH_take (i := 8) (v := undef) (by first | (simp only [List.getElem?_toArray, List.getElem?_cons_succ, List.getElem?_cons_zero]; done) | (simp only [List.getElem?_toArray, List.getElem?_cons_succ, List.getElem?_cons_zero]; rfl)) (by kernel_rfl) (by kernel_rfl) (by kernel_rfl) (by exact fun _ _ _ h => h) (Or.inr ⟨by rfl, rfl⟩) (by assumption) ?_
      simp only [Act.put, List.setIfInBounds_toArray, List.set_cons_zero, List.set_cons_succ]
      refine wpAnyH_take (i := 9) (v := undef) (by first | (simp only [List.getElem?_toArray, List.getElem?_cons_succ, List.getElem?_cons_zero]; done) | (simp only [List.getElem?_toArray, List.getElem?_cons_succ, List.getElem?_cons_zero]; rfl)) (by kernel_rfl) (by kernel_rfl) (by kernel_rfl) (by exact fun _ _ _ h => h) (Or.inr ⟨by rfl, rfl⟩) (by assumption) ?_
      simp only [Act.put, List.setIfInBounds_toArray, List.set_cons_zero, List.set_cons_succ]
      refine wpAnyH_take (i := 10) (v := undef) (by first | (simp only [List.getElem?_toArray, List.getElem?_cons_succ, List.getElem?_cons_zero]; done) | (simp only [List.getElem?_toArray, List.getElem?_cons_succ, List.getElem?_cons_zero]; rfl)) (by kernel_rfl) (by kernel_rfl) (by kernel_rfl) (by exact fun _ _ _ h => h) (Or.inr ⟨by rfl, rfl⟩) (by assumption) ?_
      simp only [Act.put, List.setIfInBounds_toArray, List.set_cons_zero, List.set_cons_succ]
      refine wpAnyH_take (i := 11) (v := undef) (by first | (simp only [List.getElem?_toArray, List.getElem?_cons_succ, List.getElem?_cons_zero]; done) | (simp only [List.getElem?_toArray, List.getElem?_cons_succ, List.getElem?_cons_zero]; rfl)) (by kernel_rfl) (by kernel_rfl) (by kernel_rfl) (by exact fun _ _ _ h => h) (Or.inr ⟨by rfl, rfl⟩) (by assumption) ?_
      simp only [Act.put, List.setIfInBounds_toArray, List.set_cons_zero, List.set_cons_succ]
      refine wpAnyH_take (i := 12) (v := ?_) (by first | (simp only [List.getElem?_toArray, List.getElem?_cons_succ, List.getElem?_cons_zero]; done) | (simp only [List.getElem?_toArray, List.getElem?_cons_succ, List.getElem?_cons_zero]; rfl)) (by kernel_rfl) (by kernel_rfl) (by kernel_rfl) (by exact fun _ _ _ h => h) (Or.inl ⟨by rfl, ?_⟩) (by assumption) ?_
      rotate_left
      · (intro w hSw; (try dsimp only at hSw); first | (go_simp; done) | (go_simp; with_reducible rfl))
      simp only [Act.put, List.setIfInBounds_toArray, List.set_cons_zero, List.set_cons_succ]
      refine wpAnyH_done (by kernel_rfl) ?_ _
      go_wp2_with (refine wpList_store_blk (by rfl) 45 (.tmp 2) (.tmp 50) rfl w.heap.size (mon0 0).cells (by rfl) (by rfl) 45 _ (HZC.out.below hB6 HZC.out.lt) (by kernel_rfl) (by rfl) (mon_one _) ?_)
      refine bodyPost_ret (results_cell_tmp_tmp rfl _ _ w.heap.size 45 (mon0 0).cells (0, 0) _ (by rfl) ((HZC.out.below hB6 HZC.out.lt).setRow_ _) Tryd.underlying45 rfl (by kernel_rfl)) rfl ?_
      exact ⟨fun _ => rfl, fun d n h => (by rw [HBG.out] at h; cases h), below_setRow (HFC.out _ hB6) (Nat.le_refl _) _⟩
    | true =>
      have HBP := Lib.hid fun (W : World) (h : Below wc.heap.size wc W) => rbput_ok m W _ (HMR.out.below h (fun _ _ h => h.2)) hok HU32.out
      rw [hok] at HRC
      obtain ⟨qa, hqa⟩ : ∃ qa, qa = str m.d.put := ⟨_, rfl⟩
      have HBD := Lib.hid fun (W : World) (h : Below wc.heap.size wc W) => (HBP.out W h).mono fun e w' hh => (show ∃ A3 c3, e = .returned (.slice A3 m.d.put.length c3) ∧ Hid ((convert 25 9 (.slice A3 m.d.put.length c3)).run Tryd.prog w' = .ok (.string qa) w') ∧ Below W.heap.size W w' from by
        obtain ⟨A3, c3, he, ho, hb⟩ := hh
        obtain ⟨A3', c3', hv, -, -, -, rd⟩ := own_reads ho
        injection hv with e1 e2 e3
        subst e1 e3
        exact ⟨_, _, he, Lib.hid (by rw [hqa]; exact own_str2 rd rfl), hb⟩)
      by_cases heq : m.d.put = l.take n
      · have HBG := Lib.hid (show bget l = some (m.d, n) from by rw [HEQ2.out, HMD.out, hok, heq]; simp)
        have hqq : qb = qa := by rw [hqa, hqb, heq]
        subst hqq
        have hne : (qb.toList == qb.toList) = true := by simp
        have HMD2 := Lib.hid (rfl : m.d = m.d)
        obtain ⟨dd, hdd⟩ : ∃ dd, dd = m.d := ⟨_, rfl⟩
        rw [← hdd] at HBG
        have HDD := Lib.hid hdd
        clear hok HMD HU32 heq hqa hqb HMD2 HBP hdd
        generalize m.d.put.length = pl at *
        obtain ⟨kind, id, addr, asn, time, reason, own, sA, sc, sent, cA, cc, came, text⟩ := m
        simp only [MoV.val, MoV.cells] at *
        generalize hsl : sent.length = sl at *
        generalize hcl : came.length = cl at *
        generalize htx : str text = tx at *
        have HSL := Lib.hid hsl
        have HCL := Lib.hid hcl
        have HTX := Lib.hid htx
        clear hsl hcl htx
        have HCS := Lib.hid fun (W : World) (h : Below wc.heap.size wc W) => (show W.cell? ⟨g, 0, none⟩ = some (.int .i64 kind) ∧ W.cell? ⟨g, 1, none⟩ = some (.int .u32 id) ∧ W.cell? ⟨g, 2, none⟩ = some (.int .u32 addr) ∧ W.cell? ⟨g, 3, none⟩ = some (.int .i64 asn) ∧ W.cell? ⟨g, 4, none⟩ = some (.int .i64 time) ∧ W.cell? ⟨g, 5, none⟩ = some (.int .i64 reason) ∧ W.cell? ⟨g, 6, none⟩ = some (.int .u32 own) ∧ W.cell? ⟨g, 7, none⟩ = some (.slice sA sl sc) ∧ W.cell? ⟨g, 8, none⟩ = some (.slice cA cl cc) ∧ W.cell? ⟨g, 9, none⟩ = some (.string tx) ∧ (convert 25 9 (.slice (some ⟨b0, off, none⟩) n c)).run Tryd.prog W = .ok (.string qb) W from by
          obtain ⟨p0, p1, p2, p3, p4, p5, p6, p7, p8, p9⟩ := blk10 (HM.out.below h HM.out.lt)
          exact ⟨p0, p1, p2, p3, p4, p5, p6, p7, p8, p9, HCV.out W h⟩)
        have hB0 : Below wc.heap.size wc wc.drew := ⟨rfl, rfl, rfl, Nat.le_refl _, fun _ _ => rfl⟩
        go_upto_region 7 with fail
        refine wp_region_held_drew (S := (fun W => W.cell? ⟨g, 0, none⟩ = some (.int .i64 kind) ∧ W.cell? ⟨g, 1, none⟩ = some (.int .u32 id) ∧ W.cell? ⟨g, 2, none⟩ = some (.int .u32 addr) ∧ W.cell? ⟨g, 3, none⟩ = some (.int .i64 asn) ∧ W.cell? ⟨g, 4, none⟩ = some (.int .i64 time) ∧ W.cell? ⟨g, 5, none⟩ = some (.int .i64 reason) ∧ W.cell? ⟨g, 6, none⟩ = some (.int .u32 own) ∧ W.cell? ⟨g, 7, none⟩ = some (.slice sA sl sc) ∧ W.cell? ⟨g, 8, none⟩ = some (.slice cA cl cc) ∧ W.cell? ⟨g, 9, none⟩ = some (.string tx) ∧ (convert 25 9 (.slice (some ⟨b0, off, none⟩) n c)).run Tryd.prog W = .ok (.string qb) W)) (by kernel_rfl) (HCS.out _ hB0) (fun hHeld => ?_)
        refine wpAnyH_take (i := 0) (v := ?_) (by first | (simp only [List.getElem?_toArray, List.getElem?_cons_zero]; done) | (simp only [List.getElem?_toArray, List.getElem?_cons_zero]; rfl)) (by kernel_rfl) (by kernel_rfl) (by kernel_rfl) (by exact fun _ _ _ h => h) (Or.inl ⟨by rfl, ?_⟩) (by assumption) ?_
        rotate_left
        · (intro w hSw; (try dsimp only at hSw); first | (go_simp; done) | (go_simp; with_reducible rfl))
        simp only [Act.put, List.setIfInBounds_toArray, List.set_cons_zero, List.set_cons_succ]
        refine wpAnyH_ready (rs := [1]) (by kernel_rfl) (by simp) ?_
        refine AllReadyH.cons (by first | (simp only [List.getElem?_toArray, List.getElem?_cons_succ, List.getElem?_cons_zero]; done) | (simp only [List.getElem?_toArray, List.getElem?_cons_succ, List.getElem?_cons_zero]; rfl)) (fun K hK => ?_) AllReadyH.nil
        go_simp
        refine (HRC.out _ hB0).mono ?_
        rintro e W6 ⟨rfl, hb6⟩
        have hB6 := HTR.out _ _ hB0 hb6
        go_wp2_with fail
        refine hK.out _ _ (HCS.out _ hB6) (fun hHeld => ?_)
        clear hK K
        try simp only [Act.put, List.setIfInBounds_toArray, List.set_cons_zero, List.set_cons_succ]
        refine wpAnyH_take (i := 2) (v := ?_) (by first | (simp only [List.getElem?_toArray, List.getElem?_cons_succ, List.getElem?_cons_zero]; done) | (simp only [List.getElem?_toArray, List.getElem?_cons_succ, List.getElem?_cons_zero]; rfl)) (by kernel_rfl) (by kernel_rfl) (by kernel_rfl) (by exact fun _ _ _ h => h) (Or.inl ⟨by rfl, ?_⟩) (by assumption) ?_
        rotate_left
        · (intro w hSw; (try dsimp only at hSw); first | (go_simp; done) | (go_simp; with_reducible rfl))
        simp only [Act.put, List.setIfInBounds_toArray, List.set_cons_zero, List.set_cons_succ]
        refine wpAnyH_take (i := 3) (v := ?_) (by first | (simp only [List.getElem?_toArray, List.getElem?_cons_succ, List.getElem?_cons_zero]; done) | (simp only [List.getElem?_toArray, List.getElem?_cons_succ, List.getElem?_cons_zero]; rfl)) (by kernel_rfl) (by kernel_rfl) (by kernel_rfl) (by exact fun _ _ _ h => h) (Or.inl ⟨by rfl, ?_⟩) (by assumption) ?_
        rotate_left
        · (intro w hSw; (try dsimp only at hSw); first | (go_simp; done) | (go_simp; with_reducible rfl))
        simp only [Act.put, List.setIfInBounds_toArray, List.set_cons_zero, List.set_cons_succ]
        refine wpAnyH_take (i := 4) (v := ?_) (by first | (simp only [List.getElem?_toArray, List.getElem?_cons_succ, List.getElem?_cons_zero]; done) | (simp only [List.getElem?_toArray, List.getElem?_cons_succ, List.getElem?_cons_zero]; rfl)) (by kernel_rfl) (by kernel_rfl) (by kernel_rfl) (by exact fun _ _ _ h => h) (Or.inl ⟨by rfl, ?_⟩) (by assumption) ?_
        rotate_left
        · (intro w hSw; (try dsimp only at hSw); first | (go_simp; done) | (go_simp; with_reducible rfl))
        simp only [Act.put, List.setIfInBounds_toArray, List.set_cons_zero, List.set_cons_succ]
        refine wpAnyH_take (i := 7) (v := ?_) (by first | (simp only [List.getElem?_toArray, List.getElem?_cons_succ, List.getElem?_cons_zero]; done) | (simp only [List.getElem?_toArray, List.getElem?_cons_succ, List.getElem?_cons_zero]; rfl)) (by kernel_rfl) (by kernel_rfl) (by kernel_rfl) (by exact fun _ _ _ h => h) (Or.inl ⟨by rfl, ?_⟩) (by assumption) ?_
        rotate_left
        · (intro w hSw; (try dsimp only at hSw); first | (go_simp; done) | (go_simp; with_reducible rfl))
        simp only [Act.put, List.setIfInBounds_toArray, List.set_cons_zero, List.set_cons_succ]
        refine wpAnyH_take (i := 8) (v := ?_) (by first | (simp only [List.getElem?_toArray, List.getElem?_cons_succ, List.getElem?_cons_zero]; done) | (simp only [List.getElem?_toArray, List.getElem?_cons_succ, List.getElem?_cons_zero]; rfl)) (by kernel_rfl) (by kernel_rfl) (by kernel_rfl) (by exact fun _ _ _ h => h) (Or.inl ⟨by rfl, ?_⟩) (by assumption) ?_
        rotate_left
        · (intro w hSw; (try dsimp only at hSw); first | (go_simp; done) | (go_simp; with_reducible rfl))
        simp only [Act.put, List.setIfInBounds_toArray, List.set_cons_zero, List.set_cons_succ]
        refine wpAnyH_take (i := 9) (v := ?_) (by first | (simp only [List.getElem?_toArray, List.getElem?_cons_succ, List.getElem?_cons_zero]; done) | (simp only [List.getElem?_toArray, List.getElem?_cons_succ, List.getElem?_cons_zero]; rfl)) (by kernel_rfl) (by kernel_rfl) (by kernel_rfl) (by exact fun _ _ _ h => h) (Or.inl ⟨by rfl, ?_⟩) (by assumption) ?_
        rotate_left
        · (intro w hSw; (try dsimp only at hSw); first | (go_simp; done) | (go_simp; with_reducible rfl))
        simp only [Act.put, List.setIfInBounds_toArray, List.set_cons_zero, List.set_cons_succ]
        refine wpAnyH_take (i := 10) (v := ?_) (by first | (simp only [List.getElem?_toArray, List.getElem?_cons_succ, List.getElem?_cons_zero]; done) | (simp only [List.getElem?_toArray, List.getElem?_cons_succ, List.getElem?_cons_zero]; rfl)) (by kernel_rfl) (by kernel_rfl) (by kernel_rfl) (by exact fun _ _ _ h => h) (Or.inl ⟨by rfl, ?_⟩) (by assumption) ?_
        rotate_left
        · (intro w hSw; (try dsimp only at hSw); first | (go_simp; done) | (go_simp; with_reducible rfl))
        simp only [Act.put, List.setIfInBounds_toArray, List.set_cons_zero, List.set_cons_succ]
        refine wpAnyH_ready (rs := [5]) (by kernel_rfl) (by simp) ?_
        refine AllReadyH.cons (by first | (simp only [List.getElem?_toArray, List.getElem?_cons_succ, List.getElem?_cons_zero]; done) | (simp only [List.getElem?_toArray, List.getElem?_cons_succ, List.getElem?_cons_zero]; rfl)) (fun K hK => ?_) AllReadyH.nil
        go_simp
        refine (HBD.out _ hB6).mono ?_
        rintro e W7 ⟨A3, c3, rfl, hcv, hb7⟩
        have hB7 := HTR.out _ _ hB6 hb7
        have hcv7 := hcv.out
        go_wp2_with fail
        refine hK.out _ _ (HCS.out _ hB7) (fun hHeld => ?_)
        clear hK K
        try simp only [Act.put, List.setIfInBounds_toArray, List.set_cons_zero, List.set_cons_succ]
        refine wpAnyH_ready (rs := [6]) (by kernel_rfl) (by simp) ?_
        refine AllReadyH.cons (by first | (simp only [List.getElem?_toArray, List.getElem?_cons_succ, List.getElem?_cons_zero]; done) | (simp only [List.getElem?_toArray, List.getElem?_cons_succ, List.getElem?_cons_zero]; rfl)) (fun K hK => ?_) AllReadyH.nil
        go_simp
        refine hK.out _ _ (HCS.out _ hB7) (fun hHeld => ?_)
        clear hK K
        try simp only [Act.put, List.setIfInBounds_toArray, List.set_cons_zero, List.set_cons_succ]
        refine wpAnyH_take (i := 11) (v := ?_) (by first | (simp only [List.getElem?_toArray, List.getElem?_cons_succ, List.getElem?_cons_zero]; done) | (simp only [List.getElem?_toArray, List.getElem?_cons_succ, List.getElem?_cons_zero]; rfl)) (by kernel_rfl) (by kernel_rfl) (by kernel_rfl) (by exact fun _ _ _ h => h) (Or.inl ⟨by rfl, ?_⟩) (by assumption) ?_
        rotate_left
        · (intro w hSw; (try dsimp only at hSw); first | (go_simp; done) | (go_simp; with_reducible rfl))
        simp only [Act.put, List.setIfInBounds_toArray, List.set_cons_zero, List.set_cons_succ]
        refine wpAnyH_take (i := 12) (v := ?_) (by first | (simp only [List.getElem?_toArray, List.getElem?_cons_succ, List.getElem?_cons_zero]; done) | (simp only [List.getElem?_toArray, List.getElem?_cons_succ, List.getElem?_cons_zero]; rfl)) (by kernel_rfl) (by kernel_rfl) (by kernel_rfl) (by exact fun _ _ _ h => h) (Or.inl ⟨by rfl, ?_⟩) (by assumption) ?_
        rotate_left
        · (intro w hSw; (try dsimp only at hSw); first | (go_simp; done) | (go_simp; with_reducible rfl))
        simp only [Act.put, List.setIfInBounds_toArray, List.set_cons_zero, List.set_cons_succ]
        refine wpAnyH_done (by kernel_rfl) ?_ _
        have HK9 := Lib.hid (HM.out.below hB7 HM.out.lt)
        have HZ9 := Lib.hid (HZC.out.below hB7 HZC.out.lt)
        go_wp2_with (first | (refine wpList_load_blk (by rfl) 45 (.tmp 6) rfl g (by rfl) 45 _ _ HK9.out Tryd.underlying45 rfl (by kernel_rfl) ?_) | (refine wpList_store_blk (by rfl) 45 (.tmp 2) (.tmp 51) rfl w.heap.size _ (by rfl) (by rfl) 45 _ HZ9.out (by kernel_rfl) (by rfl) (by simp [Value.oneCell']) ?_))
        refine bodyPost_ret (results_cell_tmp_tmp rfl _ _ w.heap.size 45 _ (0, 0) _ (by rfl) (HZ9.out.setRow_ _) Tryd.underlying45 rfl (by kernel_rfl)) rfl ?_
        refine ⟨fun h => (by rw [HBG.out] at h; cases h), fun d n' h => ?_, below_setRow (HFC.out _ hB7) (Nat.le_refl _) _⟩
        rw [HBG.out] at h
        injection h with h
        injection h with h1 h2
        subst h1 h2
        refine ⟨⟨kind, id, addr, asn, time, reason, own, sA, sc, sent, cA, cc, came, text⟩, HDD.out.symm, ?_, (((HMR.out.below hB7 (fun _ _ h => h.2)).only (only_setRow _ w.heap.size _) (fun k _ hk e => by omega)).mono (fun k _ hk => by omega))⟩
        show _ = Ending.returned (.tuple #[.agg #[.int .i64 kind, .int .u32 id, .int .u32 addr, .int .i64 asn, .int .i64 time, .int .i64 reason, .int .u32 own, .slice sA sent.length sc, .slice cA came.length cc, .string (str text)], _, _])
        rw [HSL.out, HCL.out, HTX.out]
        rfl
      · have HBG := Lib.hid (show bget l = none from by rw [HEQ2.out, HMD.out, hok]; simp [heq])
        have hne : (qa.toList == qb.toList) = false := by
          rw [hqa, hqb, str_eq]
          simp [heq]
        clear hok HMD HU32 heq hqa hqb HBP
        generalize m.d.put.length = pl at *
        obtain ⟨kind, id, addr, asn, time, reason, own, sA, sc, sent, cA, cc, came, text⟩ := m
        simp only [MoV.val, MoV.cells] at *
        generalize hsl : sent.length = sl at *
        generalize hcl : came.length = cl at *
        generalize htx : str text = tx at *
        have HSL := Lib.hid hsl
        have HCL := Lib.hid hcl
        have HTX := Lib.hid htx
        clear hsl hcl htx
        have HCS := Lib.hid fun (W : World) (h : Below wc.heap.size wc W) => (show W.cell? ⟨g, 0, none⟩ = some (.int .i64 kind) ∧ W.cell? ⟨g, 1, none⟩ = some (.int .u32 id) ∧ W.cell? ⟨g, 2, none⟩ = some (.int .u32 addr) ∧ W.cell? ⟨g, 3, none⟩ = some (.int .i64 asn) ∧ W.cell? ⟨g, 4, none⟩ = some (.int .i64 time) ∧ W.cell? ⟨g, 5, none⟩ = some (.int .i64 reason) ∧ W.cell? ⟨g, 6, none⟩ = some (.int .u32 own) ∧ W.cell? ⟨g, 7, none⟩ = some (.slice sA sl sc) ∧ W.cell? ⟨g, 8, none⟩ = some (.slice cA cl cc) ∧ W.cell? ⟨g, 9, none⟩ = some (.string tx) ∧ (convert 25 9 (.slice (some ⟨b0, off, none⟩) n c)).run Tryd.prog W = .ok (.string qb) W from by
          obtain ⟨p0, p1, p2, p3, p4, p5, p6, p7, p8, p9⟩ := blk10 (HM.out.below h HM.out.lt)
          exact ⟨p0, p1, p2, p3, p4, p5, p6, p7, p8, p9, HCV.out W h⟩)
        have hB0 : Below wc.heap.size wc wc.drew := ⟨rfl, rfl, rfl, Nat.le_refl _, fun _ _ => rfl⟩
        go_upto_region 7 with fail
        refine wp_region_held_drew (S := (fun W => W.cell? ⟨g, 0, none⟩ = some (.int .i64 kind) ∧ W.cell? ⟨g, 1, none⟩ = some (.int .u32 id) ∧ W.cell? ⟨g, 2, none⟩ = some (.int .u32 addr) ∧ W.cell? ⟨g, 3, none⟩ = some (.int .i64 asn) ∧ W.cell? ⟨g, 4, none⟩ = some (.int .i64 time) ∧ W.cell? ⟨g, 5, none⟩ = some (.int .i64 reason) ∧ W.cell? ⟨g, 6, none⟩ = some (.int .u32 own) ∧ W.cell? ⟨g, 7, none⟩ = some (.slice sA sl sc) ∧ W.cell? ⟨g, 8, none⟩ = some (.slice cA cl cc) ∧ W.cell? ⟨g, 9, none⟩ = some (.string tx) ∧ (convert 25 9 (.slice (some ⟨b0, off, none⟩) n c)).run Tryd.prog W = .ok (.string qb) W)) (by kernel_rfl) (HCS.out _ hB0) (fun hHeld => ?_)
        refine wpAnyH_take (i := 0) (v := ?_) (by first | (simp only [List.getElem?_toArray, List.getElem?_cons_zero]; done) | (simp only [List.getElem?_toArray, List.getElem?_cons_zero]; rfl)) (by kernel_rfl) (by kernel_rfl) (by kernel_rfl) (by exact fun _ _ _ h => h) (Or.inl ⟨by rfl, ?_⟩) (by assumption) ?_
        rotate_left
        · (intro w hSw; (try dsimp only at hSw); first | (go_simp; done) | (go_simp; with_reducible rfl))
        simp only [Act.put, List.setIfInBounds_toArray, List.set_cons_zero, List.set_cons_succ]
        refine wpAnyH_ready (rs := [1]) (by kernel_rfl) (by simp) ?_
        refine AllReadyH.cons (by first | (simp only [List.getElem?_toArray, List.getElem?_cons_succ, List.getElem?_cons_zero]; done) | (simp only [List.getElem?_toArray, List.getElem?_cons_succ, List.getElem?_cons_zero]; rfl)) (fun K hK => ?_) AllReadyH.nil
        go_simp
        refine (HRC.out _ hB0).mono ?_
        rintro e W6 ⟨rfl, hb6⟩
        have hB6 := HTR.out _ _ hB0 hb6
        go_wp2_with fail
        refine hK.out _ _ (HCS.out _ hB6) (fun hHeld => ?_)
        clear hK K
        try simp only [Act.put, List.setIfInBounds_toArray, List.set_cons_zero, List.set_cons_succ]
        refine wpAnyH_take (i := 2) (v := ?_) (by first | (simp only [List.getElem?_toArray, List.getElem?_cons_succ, List.getElem?_cons_zero]; done) | (simp only [List.getElem?_toArray, List.getElem?_cons_succ, List.getElem?_cons_zero]; rfl)) (by kernel_rfl) (by kernel_rfl) (by kernel_rfl) (by exact fun _ _ _ h => h) (Or.inl ⟨by rfl, ?_⟩) (by assumption) ?_
        rotate_left
        · (intro w hSw; (try dsimp only at hSw); first | (go_simp; done) | (go_simp; with_reducible rfl))
        simp only [Act.put, List.setIfInBounds_toArray, List.set_cons_zero, List.set_cons_succ]
        refine wpAnyH_take (i := 3) (v := ?_) (by first | (simp only [List.getElem?_toArray, List.getElem?_cons_succ, List.getElem?_cons_zero]; done) | (simp only [List.getElem?_toArray, List.getElem?_cons_succ, List.getElem?_cons_zero]; rfl)) (by kernel_rfl) (by kernel_rfl) (by kernel_rfl) (by exact fun _ _ _ h => h) (Or.inl ⟨by rfl, ?_⟩) (by assumption) ?_
        rotate_left
        · (intro w hSw; (try dsimp only at hSw); first | (go_simp; done) | (go_simp; with_reducible rfl))
        simp only [Act.put, List.setIfInBounds_toArray, List.set_cons_zero, List.set_cons_succ]
        refine wpAnyH_take (i := 4) (v := ?_) (by first | (simp only [List.getElem?_toArray, List.getElem?_cons_succ, List.getElem?_cons_zero]; done) | (simp only [List.getElem?_toArray, List.getElem?_cons_succ, List.getElem?_cons_zero]; rfl)) (by kernel_rfl) (by kernel_rfl) (by kernel_rfl) (by exact fun _ _ _ h => h) (Or.inl ⟨by rfl, ?_⟩) (by assumption) ?_
        rotate_left
        · (intro w hSw; (try dsimp only at hSw); first | (go_simp; done) | (go_simp; with_reducible rfl))
        simp only [Act.put, List.setIfInBounds_toArray, List.set_cons_zero, List.set_cons_succ]
        refine wpAnyH_take (i := 7) (v := ?_) (by first | (simp only [List.getElem?_toArray, List.getElem?_cons_succ, List.getElem?_cons_zero]; done) | (simp only [List.getElem?_toArray, List.getElem?_cons_succ, List.getElem?_cons_zero]; rfl)) (by kernel_rfl) (by kernel_rfl) (by kernel_rfl) (by exact fun _ _ _ h => h) (Or.inl ⟨by rfl, ?_⟩) (by assumption) ?_
        rotate_left
        · (intro w hSw; (try dsimp only at hSw); first | (go_simp; done) | (go_simp; with_reducible rfl))
        simp only [Act.put, List.setIfInBounds_toArray, List.set_cons_zero, List.set_cons_succ]
        refine wpAnyH_take (i := 8) (v := ?_) (by first | (simp only [List.getElem?_toArray, List.getElem?_cons_succ, List.getElem?_cons_zero]; done) | (simp only [List.getElem?_toArray, List.getElem?_cons_succ, List.getElem?_cons_zero]; rfl)) (by kernel_rfl) (by kernel_rfl) (by kernel_rfl) (by exact fun _ _ _ h => h) (Or.inl ⟨by rfl, ?_⟩) (by assumption) ?_
        rotate_left
        · (intro w hSw; (try dsimp only at hSw); first | (go_simp; done) | (go_simp; with_reducible rfl))
        simp only [Act.put, List.setIfInBounds_toArray, List.set_cons_zero, List.set_cons_succ]
        refine wpAnyH_take (i := 9) (v := ?_) (by first | (simp only [List.getElem?_toArray, List.getElem?_cons_succ, List.getElem?_cons_zero]; done) | (simp only [List.getElem?_toArray, List.getElem?_cons_succ, List.getElem?_cons_zero]; rfl)) (by kernel_rfl) (by kernel_rfl) (by kernel_rfl) (by exact fun _ _ _ h => h) (Or.inl ⟨by rfl, ?_⟩) (by assumption) ?_
        rotate_left
        · (intro w hSw; (try dsimp only at hSw); first | (go_simp; done) | (go_simp; with_reducible rfl))
        simp only [Act.put, List.setIfInBounds_toArray, List.set_cons_zero, List.set_cons_succ]
        refine wpAnyH_take (i := 10) (v := ?_) (by first | (simp only [List.getElem?_toArray, List.getElem?_cons_succ, List.getElem?_cons_zero]; done) | (simp only [List.getElem?_toArray, List.getElem?_cons_succ, List.getElem?_cons_zero]; rfl)) (by kernel_rfl) (by kernel_rfl) (by kernel_rfl) (by exact fun _ _ _ h => h) (Or.inl ⟨by rfl, ?_⟩) (by assumption) ?_
        rotate_left
        · (intro w hSw; (try dsimp only at hSw); first | (go_simp; done) | (go_simp; with_reducible rfl))
        simp only [Act.put, List.setIfInBounds_toArray, List.set_cons_zero, List.set_cons_succ]
        refine wpAnyH_ready (rs := [5]) (by kernel_rfl) (by simp) ?_
        refine AllReadyH.cons (by first | (simp only [List.getElem?_toArray, List.getElem?_cons_succ, List.getElem?_cons_zero]; done) | (simp only [List.getElem?_toArray, List.getElem?_cons_succ, List.getElem?_cons_zero]; rfl)) (fun K hK => ?_) AllReadyH.nil
        go_simp
        refine (HBD.out _ hB6).mono ?_
        rintro e W7 ⟨A3, c3, rfl, hcv, hb7⟩
        have hB7 := HTR.out _ _ hB6 hb7
        have hcv7 := hcv.out
        go_wp2_with fail
        refine hK.out _ _ (HCS.out _ hB7) (fun hHeld => ?_)
        clear hK K
        try simp only [Act.put, List.setIfInBounds_toArray, List.set_cons_zero, List.set_cons_succ]
        refine wpAnyH_ready (rs := [6]) (by kernel_rfl) (by simp) ?_
        refine AllReadyH.cons (by first | (simp only [List.getElem?_toArray, List.getElem?_cons_succ, List.getElem?_cons_zero]; done) | (simp only [List.getElem?_toArray, List.getElem?_cons_succ, List.getElem?_cons_zero]; rfl)) (fun K hK => ?_) AllReadyH.nil
        go_simp
        refine hK.out _ _ (HCS.out _ hB7) (fun hHeld => ?_)
        clear hK K
        try simp only [Act.put, List.setIfInBounds_toArray, List.set_cons_zero, List.set_cons_succ]
        refine wpAnyH_take (i := 11) (v := ?_) (by first | (simp only [List.getElem?_toArray, List.getElem?_cons_succ, List.getElem?_cons_zero]; done) | (simp only [List.getElem?_toArray, List.getElem?_cons_succ, List.getElem?_cons_zero]; rfl)) (by kernel_rfl) (by kernel_rfl) (by kernel_rfl) (by exact fun _ _ _ h => h) (Or.inl ⟨by rfl, ?_⟩) (by assumption) ?_
        rotate_left
        · (intro w hSw; (try dsimp only at hSw); first | (go_simp; done) | (go_simp; with_reducible rfl))
        simp only [Act.put, List.setIfInBounds_toArray, List.set_cons_zero, List.set_cons_succ]
        refine wpAnyH_take (i := 12) (v := ?_) (by first | (simp only [List.getElem?_toArray, List.getElem?_cons_succ, List.getElem?_cons_zero]; done) | (simp only [List.getElem?_toArray, List.getElem?_cons_succ, List.getElem?_cons_zero]; rfl)) (by kernel_rfl) (by kernel_rfl) (by kernel_rfl) (by exact fun _ _ _ h => h) (Or.inl ⟨by rfl, ?_⟩) (by assumption) ?_
        rotate_left
        · (intro w hSw; (try dsimp only at hSw); first | (go_simp; done) | (go_simp; with_reducible rfl))
        simp only [Act.put, List.setIfInBounds_toArray, List.set_cons_zero, List.set_cons_succ]
        refine wpAnyH_done (by kernel_rfl) ?_ _
        go_wp2_with (refine wpList_store_blk (by rfl) 45 (.tmp 2) (.tmp 50) rfl w.heap.size (mon0 0).cells (by rfl) (by rfl) 45 _ (HZC.out.below hB7 HZC.out.lt) (by kernel_rfl) (by rfl) (mon_one _) ?_)
        refine bodyPost_ret (results_cell_tmp_tmp rfl _ _ w.heap.size 45 (mon0 0).cells (0, 0) _ (by rfl) ((HZC.out.below hB7 HZC.out.lt).setRow_ _) Tryd.underlying45 rfl (by kernel_rfl)) rfl ?_
        exact ⟨fun _ => rfl, fun d n h => (by rw [HBG.out] at h; cases h), below_setRow (HFC.out _ hB7) (Nat.le_refl _) _⟩
end Go.Proofs.YtbmbpcibihddaaaDoor
