/-
  A gate is open just behind 'warm' steps or more that were fresh: the walk of 'GateOpens', and its plain law. No condition but that the arguments read as data.
-/
import Derived.Test.YtifiabhoeagblaaGateSteps
namespace Go.Proofs.Ytifiabhoeagblaa
open Go.ChangeShapes Go.WideShapes Go.ChangeAt Go.RowKit

/-- how many fresh steps stand at the end of the first i -/
def runT (l : List Bool) : Nat → Nat
  | 0 => 0
  | i + 1 => if l.getD i false then runT l i + 1 else 0
theorem runT_le (l : List Bool) : ∀ i, runT l i ≤ i
  | 0 => by simp [runT]
  | i + 1 => by have := runT_le l i; simp only [runT]; split <;> omega
theorem runT_iff (l : List Bool) : ∀ i m, m ≤ i → (m ≤ runT l i ↔ ∀ j, j < m → l.getD (i - 1 - j) false = true)
  | 0, m, hm => by
    have : m = 0 := by omega
    subst this
    simp
  | i + 1, 0, _ => by simp
  | i + 1, m + 1, hm => by
    have ih := runT_iff l i m (by omega)
    simp only [runT]
    constructor
    · intro h j hj
      by_cases hf : l.getD i false = true
      · rw [if_pos hf] at h
        cases j with
        | zero => simpa using hf
        | succ j =>
          have := (ih.1 (by omega)) j (by omega)
          rw [show i + 1 - 1 - (j + 1) = i - 1 - j from by omega]
          exact this
      · rw [if_neg hf] at h
        omega
    · intro h
      have hf : l.getD i false = true := by have := h 0 (by omega); simpa using this
      rw [if_pos hf]
      have := ih.2 (fun j hj => by
        have := h (j + 1) (by omega)
        rw [show i + 1 - 1 - (j + 1) = i - 1 - j from by omega] at this
        exact this)
      omega
/-- the inner loop's answer behind k rounds -/
def allTo (l : List Bool) (i : Nat) (warm : Int) (k : Nat) : Bool := decide (warm ≤ (i : Int) + 1) && (List.range k).all fun j => l.getD (i - j) false
theorem allTo_succ (l : List Bool) (i : Nat) (warm : Int) (k : Nat) : allTo l i warm (k + 1) = (allTo l i warm k && l.getD (i - k) false) := by
  simp [allTo, List.range_succ, List.all_append, Bool.and_assoc]
theorem allTo_end {l : List Bool} {i : Nat} {warm : Int} {k : Nat} (h1 : 1 ≤ warm) (hk1 : (k : Int) ≤ warm) (hk2 : k ≤ i + 1) (hend : ¬ ((k : Int) < warm ∧ k ≤ i)) :
    allTo l i warm k = stepB (l.getD i false) (min warm (runT l i)) warm := by
  rw [Bool.eq_iff_iff]
  have hs : stepB (l.getD i false) (min warm (runT l i)) warm = true ↔ warm ≤ (runT l (i + 1) : Int) := by
    simp only [stepB, runT]
    cases hf : l.getD i false
    · simp; omega
    · simp; omega
  rw [hs]
  have hle := runT_le l (i + 1)
  by_cases hw : warm ≤ (i : Int) + 1
  · have hkw : (k : Int) = warm := by omega
    have hm := runT_iff l (i + 1) k (by omega)
    simp only [allTo, Bool.and_eq_true, decide_eq_true_eq, List.all_eq_true, List.mem_range]
    constructor
    · intro h
      have := hm.2 (fun j hj => by simpa using h.2 j hj)
      omega
    · intro h
      exact ⟨hw, fun j hj => by have := hm.1 (by omega) j hj; simpa using this⟩
  · have : allTo l i warm k = false := by simp [allTo]; intro h; omega
    rw [this]
    simp
    omega
theorem stepN_run {l : List Bool} {i : Nat} {warm : Int} (h1 : 1 ≤ warm) : stepN (l.getD i false) (min warm (runT l i)) warm = min warm (runT l (i + 1)) := by
  simp only [stepN, runT]
  cases hf : l.getD i false
  · simp; omega
  · simp; omega

set_option maxHeartbeats 1000000 in
theorem gate_opens_walk (warm : Int) (A : Option Addr) (c : Nat) (l : List Bool) (F : Nat → Prop) (w : World) (hl : l.length ≤ 9223372036854775807) (hr : Reads w F A (l.map Value.bool)) :
    Calls Try.prog 4 #[.int .i64 warm, .slice A l.length c] w fun e w' => e = .returned (.bool true) ∧ Below w.heap.size w w' := by
  by_cases hok : 1 ≤ warm ∧ warm ≤ 1048576
  · obtain ⟨hw1, hw2⟩ := hok
    by_cases hlen : 300 < l.length
    · have hlen' : (300 : Int) < l.length := by omega
      go_enter Try.func4, Try.ntmps4
      go_wp2_with fail
      refine (gate_new_ok warm _ hw1 hw2).mono ?_
      rintro e W ⟨rfl, rfl⟩
      go_wp2_with fail
      refine (gate_lives _).mono ?_
      rintro e W1 ⟨rfl, hb1⟩
      go_wp2_with fail
      refine (gate_lives _).mono ?_
      rintro e W2 ⟨rfl, hb2⟩
      go_wp2_with fail
      go_ret
      exact ⟨rfl, (((Below.refl _ _).alloc (Nat.le_refl _) _).trans (hb1.mono (by simp))).trans (hb2.mono (by have := hb1.size; simp at this; omega))⟩
    · have hlen' : (l.length : Int) ≤ 300 := by omega
      have hlen2 : decide ((300 : Int) < l.length) = false := by simpa using hlen'
      go_enter Try.func4, Try.ntmps4
      go_wp2_with fail
      refine (gate_new_ok warm _ hw1 hw2).mono ?_
      rintro e W ⟨rfl, rfl⟩
      go_wp2_with fail
      refine (gate_lives _).mono ?_
      rintro e W1 ⟨rfl, hb1⟩
      go_wp2_with fail
      have hg0 : Blk W1 w.heap.size 67 #[.int .i64 0, .int .i64 warm] := (Blk.new w _ _).below hb1 (by simp)
      have hbel0 : Below w.heap.size w W1 := ((Below.refl _ _).alloc (Nat.le_refl _) _).trans (hb1.mono (by simp))
      clear hb1
      generalize hgb : w.heap.size = gb at hg0 hbel0 ⊢
      go_loopw [7] (fun i wr => ∃ (k : Nat), k ≤ l.length ∧ i = .int .i64 k ∧ Blk wr gb 67 #[.int .i64 (min warm (runT l k)), .int .i64 warm] ∧ Below gb w wr) (fun i _ => l.length - (intOf i).toNat)
      case atStart => exact ⟨0, by omega, rfl, by rw [show min warm ((runT l 0 : Nat) : Int) = 0 from by simp [runT]; omega]; exact hg0, hbel0⟩
      case round =>
        obtain ⟨k, hk, rfl, hg, hbel⟩ := hrel
        clear hg0 hbel0
        by_cases hkl : k < l.length
        · have hrb := (hr.mono (G := (· < gb)) (fun b hb _ => by omega)).below hbel (fun b hb h => h)
          obtain ⟨b, off, rfl, hF, hbl, hc⟩ := hrb.at_ (k := k) (by simpa using hkl)
          have hfk : l[k] = l.getD k false := by simp [List.getD, hkl]
          simp only [List.getElem_map] at hc
          rw [hfk] at hc
          have HF := Lib.hid hfk
          have HR := Lib.hid hrb
          have HN := Lib.hid (stepN_run (l := l) (i := k) hw1)
          have HE := Lib.hid fun (m : Nat) => allTo_end (l := l) (i := k) (k := m) hw1
          have HA := Lib.hid fun (m : Nat) => allTo_succ l k warm m
          clear hr hrb hfk
          generalize hfv : l.getD k false = f at hc HF HN HE
          have HFV := Lib.hid hfv
          clear hfv
          go_wp2_with fail
          refine (gate_step f gb _ warm _ (by omega) (by omega) hw1 hw2 hg).mono ?_
          rintro e W2 ⟨rfl, hg1, ho1⟩
          rw [HN.out] at hg1
          have HR2 := Lib.hid (HR.out.only ho1 (fun b _ h1 h2 => by omega))
          have hbel1 := hbel.trans (ho1.below (by have := hbel.size; omega) (by intro i hi; omega))
          clear hg hbel hc
          go_wp2_with fail
          have HZ := Lib.hid (show allTo l k warm 0 = decide (warm ≤ (k : Int) + 1) from by simp [allTo])
          go_loop [9, 10] (fun a x => ∃ m : Nat, (m : Int) ≤ warm ∧ m ≤ k + 1 ∧ a = .bool (allTo l k warm m) ∧ x = .int .i64 m) (fun _ x => warm.toNat - (intOf x).toNat)
          case atStart => exact ⟨0, by omega, by omega, by rw [HZ.out], rfl⟩
          case round =>
            obtain ⟨m, hm1, hm2, rfl, rfl⟩ := hrel
            clear HZ HR
            by_cases hin : (m : Int) < warm ∧ m ≤ k
            · obtain ⟨hin1, hin2⟩ := hin
              have hin3 : (m : Int) ≤ (k : Int) := by omega
              obtain ⟨b', off', e, _, _, hcm⟩ := HR2.out.at_ (k := k - m) (by simp; omega)
              cases e
              have hgd : l[k - m]'(by omega) = l.getD (k - m) false := by
                rw [List.getD, List.getElem?_eq_getElem (by omega)]; rfl
              simp only [List.getElem_map] at hcm
              rw [hgd] at hcm
              have HM := Lib.hid (HA.out m)
              clear hgd
              generalize l.getD (k - m) false = fm at hcm HM
              generalize hv : allTo l k warm m = v at HM
              have HV := Lib.hid hv
              clear hv
              cases v
              · go_wp2_with fail
                go_round
                case rel => exact ⟨m + 1, by omega, by omega, by rw [HM.out]; rfl, by go_num⟩
                case measure => simp [intOf]; omega
              · go_wp2_with fail
                go_round
                case rel => exact ⟨m + 1, by omega, by omega, by rw [HM.out]; rfl, by go_num⟩
                case measure => simp [intOf]; omega
            · have hend := HE.out m (by omega) hm2 hin
              rw [hend]
              generalize stepB f (min warm (runT l k)) warm = v
              have hv : (v != v) = false := by simp
              clear hend
              by_cases hx : (m : Int) < warm
              · have hx2 : (k : Int) < (m : Int) := by omega
                go_wp2_with fail
                go_roundw
                case rel => exact ⟨k + 1, by omega, by go_num, hg1, hbel1⟩
                case measure => simp [intOf]; omega
              · go_wp2_with fail
                go_roundw
                case rel => exact ⟨k + 1, by omega, by go_num, hg1, hbel1⟩
                case measure => simp [intOf]; omega
        · go_wp2_with fail
          go_ret
          exact ⟨rfl, by rw [hgb]; exact hbel⟩
  · go_enter Try.func4, Try.ntmps4
    go_wp2_with fail
    refine (gate_new_bad warm _ (by omega)).mono ?_
    rintro e W ⟨rfl, rfl⟩
    go_wp2_with fail
    refine (gate_lives _).mono ?_
    rintro e W1 ⟨rfl, hb1⟩
    go_wp2_with fail
    refine (gate_lives _).mono ?_
    rintro e W2 ⟨rfl, hb2⟩
    go_wp2_with fail
    go_ret
    exact ⟨rfl, hb1.trans (hb2.mono hb1.size)⟩
end Go.Proofs.Ytifiabhoeagblaa
