/-
  Any steps of a gate, held against the document's gate: the walk of 'GateSteps'. No condition but that the arguments read as data.
-/
import Derived.Test.YtifiabhoeagblaaGateLives
namespace Go.Proofs.Ytifiabhoeagblaa
open Go.ChangeShapes Go.WideShapes Go.ChangeAt Go.RowKit

/-- the count behind a step -/
def stepN (f : Bool) (n warm : Int) : Int := if f then min (n + 1) warm else 0
/-- what a step says -/
def stepB (f : Bool) (n warm : Int) : Bool := f && decide (warm ≤ n + 1)
theorem stepN_bd {f : Bool} {n warm : Int} (h0 : 0 ≤ n) (h1 : n ≤ warm) : 0 ≤ stepN f n warm ∧ stepN f n warm ≤ warm := by
  cases f <;> simp [stepN] <;> omega
theorem stepB_open {f : Bool} {n warm : Int} (h2 : 1 ≤ warm) : decide (warm ≤ stepN f n warm) = stepB f n warm := by
  cases f
  · simp [stepN, stepB]; omega
  · simp only [stepN, stepB, if_true, Bool.true_and, decide_eq_decide]; omega

theorem gate_open_v (b : Nat) (n warm : Int) (v : Bool) (w : World) (hv : Hid (decide (warm ≤ n) = v)) (hw : 1 ≤ warm) (hb : Blk w b 67 #[.int .i64 n, .int .i64 warm]) :
    Calls Try.prog 14 #[.pointer (some ⟨b, 0, none⟩)] w fun e w' => e = .returned (.bool v) ∧ ∃ k, w' = w.drewN k := by
  have h := gate_open b n warm w hw hb
  rw [hv.out] at h
  exact h

theorem gate_step (f : Bool) (b : Nat) (n warm : Int) (w : World) (h0 : 0 ≤ n) (h1 : n ≤ warm) (h2 : 1 ≤ warm) (h3 : warm ≤ 1048576) (hb : Blk w b 67 #[.int .i64 n, .int .i64 warm]) :
    Calls Try.prog 12 #[.pointer (some ⟨b, 0, none⟩), .bool f] w fun e w' => e = .returned (.bool (stepB f n warm)) ∧
      Blk w' b 67 #[.int .i64 (stepN f n warm), .int .i64 warm] ∧ Only (· = b) w w' := by
  cases f
  · exact gate_step_no b n warm w hb
  · exact gate_step_yes b n warm w h0 h1 h2 h3 hb

theorem refgate_step (f : Bool) (b : Nat) (n warm : Int) (w : World) (h0 : 0 ≤ n) (h1 : n ≤ warm) (h2 : 1 ≤ warm) (h3 : warm ≤ 1048576) (hb : Blk w b 30 #[.int .i64 n, .int .i64 warm]) :
    Calls Try.prog 13 #[.pointer (some ⟨b, 0, none⟩), .bool f] w fun e w' => e = .returned (.bool (stepB f n warm)) ∧
      Blk w' b 30 #[.int .i64 (stepN f n warm), .int .i64 warm] ∧ Only (· = b) w w' := by
  have hc0 := hb.cell 0
  have hc1 := hb.cell 1
  have hf := hb.frozen 0
  simp at hc0 hc1
  cases f
  · have H := Lib.hid hb
    clear hb
    go_enter Try.func13, Try.ntmps13
    go_wp2
    go_ret
    exact ⟨rfl, by simpa [stepN] using H.out.set_ 0 (.int .i64 0), (Only.refl (· = b) w).setCell (fun _ => rfl) _⟩
  · by_cases hlt : n < warm
    · have hb2 := hb.set_ 0 (.int .i64 (n + 1))
      have e1 : stepN true n warm = n + 1 := by simp only [stepN, if_true]; omega
      have e2 : stepB true n warm = (n + 1 == warm) := by simp only [stepB, Bool.true_and]; rw [Bool.eq_iff_iff]; simp; omega
      have H1 := Lib.hid e1
      have H2 := Lib.hid e2
      clear e1 e2 hb
      simp at hb2
      have hs : IntKind.i64.wrap (n + 1) = n + 1 := IntWalk.i64_in _ (by omega)
      have hx0 : (w.setCell ⟨b, 0, none⟩ (.int .i64 (n + 1))).cell? ⟨b, 0, none⟩ = some (.int .i64 (n + 1)) := by have := hb2.cell 0; simpa using this
      have hx1 : (w.setCell ⟨b, 0, none⟩ (.int .i64 (n + 1))).cell? ⟨b, 1, none⟩ = some (.int .i64 warm) := by have := hb2.cell 1; simpa using this
      go_enter Try.func13, Try.ntmps13
      go_wp2
      go_quiet (fail)
      go_wp2
      go_quiet (fail)
      go_wp2
      go_ret
      exact ⟨by rw [H2.out]; rfl, by rw [H1.out]; exact hb2, ((((Only.refl (· = b) w).drewN _).setCell (fun _ => rfl) _).drewN _)⟩
    · have e1 : stepN true n warm = n := by simp only [stepN, if_true]; omega
      have e2 : stepB true n warm = (n == warm) := by simp only [stepB, Bool.true_and]; rw [Bool.eq_iff_iff]; simp; omega
      have H1 := Lib.hid e1
      have H2 := Lib.hid e2
      have HB := Lib.hid hb
      clear e1 e2 hb
      have hge : decide (n < warm) = false := by simpa using hlt
      go_enter Try.func13, Try.ntmps13
      go_wp2
      go_quiet (fail)
      go_wp2
      go_quiet (fail)
      go_wp2
      go_ret
      exact ⟨by rw [H2.out]; rfl, by rw [H1.out]; exact HB.out, ((Only.refl _ w).drewN _).drewN _⟩

set_option maxHeartbeats 1000000 in
theorem gate_steps_walk (warm : Int) (A : Option Addr) (c : Nat) (l : List Bool) (F : Nat → Prop) (w : World) (hl : l.length ≤ 9223372036854775807) (hr : Reads w F A (l.map Value.bool)) :
    Calls Try.prog 3 #[.int .i64 warm, .slice A l.length c] w fun e w' => e = .returned (.bool true) ∧ Below w.heap.size w w' := by
  by_cases hlen : 300 < l.length
  · by_cases hok : 1 ≤ warm ∧ warm ≤ 1048576
    · go_enter Try.func3, Try.ntmps3
      go_wp2_with fail
      refine (gate_new_ok warm _ hok.1 hok.2).mono ?_
      rintro e W ⟨rfl, rfl⟩
      go_wp2_with fail
      refine (gate_lives _).mono ?_
      rintro e W1 ⟨rfl, hb1⟩
      have hlen' : (300 : Int) < l.length := by omega
      go_wp2_with fail
      refine (gate_lives _).mono ?_
      rintro e W2 ⟨rfl, hb2⟩
      go_wp2_with fail
      go_ret
      exact ⟨rfl, (((Below.refl _ _).alloc (Nat.le_refl _) _).trans (hb1.mono (by simp))).trans (hb2.mono (by have := hb1.size; simp at this; omega))⟩
    · go_enter Try.func3, Try.ntmps3
      go_wp2_with fail
      refine (gate_new_bad warm _ (by omega)).mono ?_
      rintro e W ⟨rfl, rfl⟩
      go_wp2_with fail
      refine (gate_lives _).mono ?_
      rintro e W1 ⟨rfl, hb1⟩
      have hlen' : (300 : Int) < l.length := by omega
      go_wp2_with fail
      refine (gate_lives _).mono ?_
      rintro e W2 ⟨rfl, hb2⟩
      go_wp2_with fail
      go_ret
      exact ⟨rfl, hb1.trans (hb2.mono hb1.size)⟩
  · have hlen' : (l.length : Int) ≤ 300 := by omega
    by_cases hok : 1 ≤ warm ∧ warm ≤ 1048576
    · obtain ⟨hw1, hw2⟩ := hok
      go_enter Try.func3, Try.ntmps3
      go_wp2_with fail
      refine (gate_new_ok warm _ hw1 hw2).mono ?_
      rintro e W ⟨rfl, rfl⟩
      go_wp2_with fail
      refine (gate_lives _).mono ?_
      rintro e W1 ⟨rfl, hb1⟩
      go_wp2_with fail
      have hg0 : Blk (W1.alloc (.cells #[.int .i64 0, .int .i64 warm] 30)) w.heap.size 67 #[.int .i64 0, .int .i64 warm] := ((Blk.new w _ _).below hb1 (by simp)).alloc _
      have hx0 := Blk.new W1 30 #[.int .i64 0, .int .i64 warm]
      have hlt := hb1.size
      simp at hlt
      have hbel0 : Below w.heap.size w (W1.alloc (.cells #[.int .i64 0, .int .i64 warm] 30)) := (((Below.refl _ _).alloc (Nat.le_refl _) _).trans (hb1.mono (by simp))).alloc (by omega) _
      clear hb1
      generalize W1.heap.size = xb at hlt hx0 ⊢
      generalize hgb : w.heap.size = gb at hlt hg0 hbel0 ⊢
      go_loopw [8] (fun i wr => ∃ (k : Nat) (n : Int), k ≤ l.length ∧ 0 ≤ n ∧ n ≤ warm ∧ i = .int .i64 k ∧ Blk wr gb 67 #[.int .i64 n, .int .i64 warm] ∧ Blk wr xb 30 #[.int .i64 n, .int .i64 warm] ∧ Below gb w wr) (fun i _ => l.length - (intOf i).toNat)
      case atStart => exact ⟨0, 0, by omega, by omega, by omega, rfl, hg0, hx0, hbel0⟩
      case round =>
        obtain ⟨k, n, hk, hn0, hn1, rfl, hg, hx, hbel⟩ := hrel
        clear hg0 hx0 hbel0
        by_cases hkl : k < l.length
        · obtain ⟨b, off, rfl, hF, hbl, hc⟩ := hr.at_ (k := k) (by simpa using hkl)
          simp only [List.getElem_map] at hc
          have hc' : wr.cell? ⟨b, off + k, none⟩ = some (.bool l[k]) := (hbel.cell (p := ⟨b, off + k, none⟩) (by simpa [hgb] using hbl)).trans hc
          have hbl' : b < gb := by omega
          have hcA : (0 : Int) ≤ (k : Int) := by omega
          have hcB : (k : Int) < (l.length : Int) := by omega
          clear hr hc
          generalize l[k] = f at hc'
          go_wp2_with fail
          go_region_held3 (fun w' => w'.cell? ⟨b, off + k, none⟩ = some (.bool f)) (first | go_keep | (exact hk2) | (exact hk1))
            (first | (go_at_call 12; refine (gate_step f gb n warm _ hn0 hn1 hw1 hw2 (by exact hg)).mono ?_; rintro e w1 ⟨rfl, hg1, ho1⟩; have ho1 := ho1.of_drew; have hx1 := hx.only ho1 (by omega); have hk1 := (ho1.cell (p := ⟨b, off + k, none⟩) (by have := hbel.size; simp; omega) (by simp; omega)).trans hc') |
              (go_at_call 13; refine (refgate_step f xb n warm _ hn0 hn1 hw1 hw2 (by exact hx1)).mono ?_; rintro e w2 ⟨rfl, hx2, ho2⟩; have hg2 := hg1.only ho2 (by omega); have hk2 := (ho2.cell (p := ⟨b, off + k, none⟩) (by have := hbel.size; have := ho1.size; simp; omega) (by simp; omega)).trans hk1))
          have hop := stepB_open (f := f) (n := n) hw1
          obtain ⟨hm0, hm1⟩ := stepN_bd (f := f) hn0 hn1
          have hbel2 := (hbel.trans (ho1.below (by have := hbel.size; omega) (by intro i hi; omega))).trans (ho2.below (by have := hbel.size; have := ho1.size; omega) (by intro i hi; omega))
          clear hg hx hbel hc' hg1 hx1 ho1 hk1 hk2 ho2 hn0 hn1
          generalize stepB f n warm = v at hop ⊢
          generalize stepN f n warm = n' at hop hm0 hm1 hg2 hx2 ⊢
          have HO := Lib.hid hop
          have hv : (v != v) = false := by simp
          have hnn : (n' != n') = false := by simp
          have hcx := hx2.cell 0
          simp at hcx
          clear hop
          go_wp2_with fail
          go_quiet ((first | (go_at_call 14; exact Calls.quiet_of (gate_open_v gb n' warm v _ HO hw1 (by exact hg2))) | (go_at_call 15; exact Calls.quiet_of_same ((gate_count gb n' warm _ (by exact hg2)).mono fun _ _ h => ⟨h.1, h.2.symm⟩))))
          go_wp2
          go_roundw
          case rel => exact ⟨k + 1, n', by omega, hm0, hm1, by go_num, hg2.drewN _, hx2.drewN _, below_drewN' hbel2 _⟩
          case measure => simp [intOf]; omega
        · go_wp2_with (first | (go_at_call 12; refine (gate_step_nil _ _).mono ?_; rintro e w1 ⟨rfl, rfl⟩) | (go_at_call 14; refine (gate_open_nil _).mono ?_; rintro e w1 ⟨rfl, k1, rfl⟩) | (go_at_call 15; refine (gate_count_nil _).mono ?_; rintro e w1 ⟨rfl, rfl⟩))
          go_ret
          exact ⟨rfl, by rw [hgb]; exact below_drewN' hbel _⟩
    · go_enter Try.func3, Try.ntmps3
      go_wp2_with fail
      refine (gate_new_bad warm _ (by omega)).mono ?_
      rintro e W ⟨rfl, rfl⟩
      go_wp2_with fail
      refine (gate_lives _).mono ?_
      rintro e W1 ⟨rfl, hb1⟩
      by_cases hw : warm < 1
      · go_wp2_with fail
        go_ret
        exact ⟨rfl, hb1⟩
      · have hw' : 1048576 < warm := by omega
        go_wp2_with fail
        go_ret
        exact ⟨rfl, hb1⟩
end Go.Proofs.Ytifiabhoeagblaa
