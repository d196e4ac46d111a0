/-
  The document's 'may settings be?' (layers 2, 4, 11, 16, 19), as far as a law needs it that only asks whether it comes back, leaves old memory alone, and bounds the seconds behind which inputs are stale: interfaces. No condition.
-/
import Derived.Test.YtifiabhoeagblaaKit
import Derived.Test.YtifiabhoeagblaaChecked
import Derived.Test.YtifiabhoeagblaaGateFresh
import Derived.LoopTactic
import Derived.StillTailTactics
import Derived.Deep.RegionHeld3
import Derived.Deep.RegionWith
import Derived.Test.YtifiabhoeagblaaConfA
namespace Go.Proofs.Ytifiabhoeagblaa
open Go.ChangeShapes Go.WideShapes Go.ChangeAt Go.RowKit

/-- an interface: number, router, prefix, room -/
structure IfR where
  ID : Int
  Ro : Int
  Ad : Int
  Le : Int
  Ca : Int
def IfR.cells (r : IfR) : List Value := [.int .i64 r.ID, .int .i64 r.Ro, .int .u32 r.Ad, .int .i64 r.Le, .int .i64 r.Ca]
theorem ifs_at : ∀ (l : List IfR) (k : Nat) (h : k < l.length), (l.flatMap IfR.cells)[5 * k]? = some (.int .i64 l[k].ID) ∧ (l.flatMap IfR.cells)[5 * k + 1]? = some (.int .i64 l[k].Ro) ∧
    (l.flatMap IfR.cells)[5 * k + 2]? = some (.int .u32 l[k].Ad) ∧ (l.flatMap IfR.cells)[5 * k + 3]? = some (.int .i64 l[k].Le) ∧ (l.flatMap IfR.cells)[5 * k + 4]? = some (.int .i64 l[k].Ca)
  | [], k, h => by simp at h
  | r :: l, 0, h => by simp [IfR.cells]
  | r :: l, k + 1, h => by
    have := ifs_at l k (by simpa using h)
    simp only [List.flatMap_cons, IfR.cells, Nat.mul_add, List.getElem_cons_succ]
    simpa [IfR.cells, show ∀ n, 5 * k + 5 + n = 5 * k + n + 5 by intro n; omega] using this
/-- the cells of one of them, where the walk looks for them -/
theorem ifs_cells {w : World} {F : Nat → Prop} {A : Option Addr} {l : List IfR} (h : Reads w F A (l.flatMap IfR.cells)) {k : Nat} (hk : k < l.length) :
    ∃ b off, A = some ⟨b, off, none⟩ ∧ F b ∧ b < w.heap.size ∧ ∃ r : IfR, l[k] = r ∧ w.cell? ⟨b, off + k * 5, none⟩ = some (.int .i64 r.ID) ∧ w.cell? ⟨b, off + k * 5 + 1, none⟩ = some (.int .i64 r.Ro) ∧
      w.cell? ⟨b, off + k * 5 + 2, none⟩ = some (.int .u32 r.Ad) ∧ w.cell? ⟨b, off + k * 5 + 3, none⟩ = some (.int .i64 r.Le) ∧ w.cell? ⟨b, off + k * 5 + 4, none⟩ = some (.int .i64 r.Ca) := by
  obtain ⟨e0, e1, e2, e3, e4⟩ := ifs_at l k hk
  rcases h with h | ⟨b, off, rfl, hF, hb, hc⟩
  · rw [h] at e0; simp at e0
  · refine ⟨b, off, rfl, hF, hb, l[k], rfl, ?_, ?_, ?_, ?_, ?_⟩
    · rw [Nat.mul_comm]; exact hc _ _ e0
    · rw [Nat.mul_comm, Nat.add_assoc]; exact hc _ _ e1
    · rw [Nat.mul_comm, Nat.add_assoc]; exact hc _ _ e2
    · rw [Nat.mul_comm, Nat.add_assoc]; exact hc _ _ e3
    · rw [Nat.mul_comm, Nat.add_assoc]; exact hc _ _ e4

set_option maxRecDepth 10000 in
set_option maxHeartbeats 4000000 in
theorem ifaces_check (A : Option Addr) (c : Nat) (l : List IfR) (F : Nat → Prop) (w : World) (hl : l.length ≤ 9223372036854775807) (hr : Reads w F A (l.flatMap IfR.cells)) :
    Calls Try.prog 34 #[.slice A l.length c] w fun e w' => RetB (fun _ => True) e ∧ Below w.heap.size w w' := by
  go_enter Try.func34, Try.ntmps34
  go_wp2_with fail
  go_loopw [3] (fun i wr => ∃ k : Nat, k ≤ l.length ∧ i = .int .i64 k ∧ Below w.heap.size w wr) (fun i _ => l.length - (intOf i).toNat)
  case atStart => exact ⟨0, by omega, rfl, Below.refl _ _⟩
  case round =>
    obtain ⟨k, hk, rfl, hb⟩ := hrel
    by_cases hkl : k < l.length
    case neg =>
      by_cases h256 : (l.length : Int) ≤ 256
      all_goals
        go_wp2_with fail
        go_ret
        exact ⟨⟨_, rfl, trivial⟩, hb⟩
    have hrw := hr.below hb (fun _ h _ => h)
    obtain ⟨b, off, rfl, hF, hbl, r, _, d0, d1, d2, d3, d4⟩ := ifs_cells hrw hkl
    obtain ⟨rI, rR, rA, rL, rC⟩ := r
    simp only at d0 d1 d2 d3 d4
    have i0 : (k : Int) < (l.length : Int) := by omega
    have hx := (Blk.new wr 80 #[.int .i64 rI, .int .i64 rR, .int .u32 rA, .int .i64 rL, .int .i64 rC])
    have hb0 := hb.alloc hb.size (.cells #[.int .i64 rI, .int .i64 rR, .int .u32 rA, .int .i64 rL, .int .i64 rC] 80)
    have HX := Lib.hid hx
    have HR := Lib.hid hr
    clear hx hr hrw
    by_cases a0 : rI < 0
    case pos =>
      go_wp2_with fail
      go_ret
      exact ⟨⟨_, rfl, trivial⟩, hb0⟩
    by_cases a1 : 4294967295 < rI
    case pos =>
      go_wp2_with fail
      go_ret
      exact ⟨⟨_, rfl, trivial⟩, hb0⟩
    by_cases a2 : rR < 0
    case pos =>
      go_wp2_with fail
      go_ret
      exact ⟨⟨_, rfl, trivial⟩, hb0⟩
    by_cases a3 : 15 < rR
    case pos =>
      go_wp2_with fail
      go_ret
      exact ⟨⟨_, rfl, trivial⟩, hb0⟩
    go_wp2_with fail
    refine (prefix_check _ _ _).mono ?_
    rintro e w1 ⟨⟨v, rfl, _⟩, hb1⟩
    have hx1 := HX.out.below hb1 (by simp)
    have hB1 : Below w.heap.size w w1 := hb0.trans (hb1.mono (by simp; have := hb.size; omega))
    clear hb0 hb1 HX d0 d1 d2 d3 d4
    cases v
    case false =>
      go_wp2_with fail
      go_ret
      exact ⟨⟨_, rfl, trivial⟩, hB1⟩
    have x3 : w1.cell? ⟨wr.heap.size, 4, none⟩ = some (.int .i64 rC) := by have := hx1.cell 4; simpa using this
    by_cases c0 : rC < 0
    case pos =>
      go_wp2_with fail
      go_ret
      exact ⟨⟨_, rfl, trivial⟩, hB1⟩
    by_cases c1 : 9007199254740991 < rC
    case pos =>
      go_wp2_with fail
      go_ret
      exact ⟨⟨_, rfl, trivial⟩, hB1⟩
    go_wp2_with fail
    clear x3
    generalize hxb : wr.heap.size = xb at hx1 ⊢
    go_loopw [5] (fun i wx => ∃ j : Nat, j ≤ k ∧ i = .int .i64 j ∧ Below w1.heap.size w1 wx) (fun i _ => k - (intOf i).toNat)
    case atStart => exact ⟨0, by omega, rfl, Below.refl _ _⟩
    case round =>
      obtain ⟨j, hj, rfl, hb2⟩ := hrel
      by_cases hjk : j < k
      case neg =>
        go_wp2_with fail
        go_roundw
        case rel => exact ⟨k + 1, by omega, by go_num, hB1.trans (hb2.mono hB1.size)⟩
        case measure => simp [intOf]; omega
      have hjl : j < l.length := by omega
      have hr2 := HR.out.below (hB1.trans (hb2.mono hB1.size)) (fun _ h _ => h)
      obtain ⟨b2, off2, eA, _, _, s, _, s0, s1, s2, s3, _⟩ := ifs_cells hr2 hjl
      injection eA with eA
      injection eA with eb eo _
      subst eb eo
      obtain ⟨sI, sR, sA, sL, sC⟩ := s
      simp only at s0 s1 s2 s3
      have hx2 := hx1.below hb2 hx1.lt
      have x0 : wr.cell? ⟨xb, 0, none⟩ = some (.int .i64 rI) := by have := hx2.cell 0; simpa using this
      have x1 : wr.cell? ⟨xb, 1, none⟩ = some (.int .i64 rR) := by have := hx2.cell 1; simpa using this
      have x2 : wr.cell? ⟨xb, 2, none⟩ = some (.int .u32 rA) := by have := hx2.cell 2; simpa using this
      have x3 : wr.cell? ⟨xb, 3, none⟩ = some (.int .i64 rL) := by have := hx2.cell 3; simpa using this
      have j0 : (0 : Int) ≤ (j : Int) := by omega
      have j1 : (j : Int) < (l.length : Int) := by omega
      have hB2 : Below w.heap.size w wr := hB1.trans (hb2.mono hB1.size)
      clear hx2 hr2
      by_cases e1 : sI = rI
      case pos =>
        subst e1
        go_wp2_with fail
        go_quiet (fail)
        go_wp2
        go_ret
        exact ⟨⟨_, rfl, trivial⟩, below_drewN' hB2 _⟩
      have q1 : (sI == rI) = false := beq_eq_false_iff_ne.2 e1
      by_cases e2 : sR = rR
      case neg =>
        have q2 : (sR == rR) = false := beq_eq_false_iff_ne.2 e2
        go_wp2_with fail
        go_quiet (fail)
        go_wp2
        go_roundw
        case rel => exact ⟨j + 1, by omega, by go_num, below_drewN' hb2 _⟩
        case measure => simp [intOf]; omega
      subst e2
      by_cases e3 : sA = rA
      case neg =>
        have q3 : (sA == rA) = false := beq_eq_false_iff_ne.2 e3
        go_wp2_with fail
        go_quiet (fail)
        go_wp2
        go_roundw
        case rel => exact ⟨j + 1, by omega, by go_num, below_drewN' hb2 _⟩
        case measure => simp [intOf]; omega
      subst e3
      by_cases e4 : sL = rL
      case neg =>
        have q4 : (sL == rL) = false := beq_eq_false_iff_ne.2 e4
        go_wp2_with fail
        go_quiet (fail)
        go_wp2
        go_roundw
        case rel => exact ⟨j + 1, by omega, by go_num, below_drewN' hb2 _⟩
        case measure => simp [intOf]; omega
      subst e4
      go_wp2_with fail
      go_quiet (fail)
      go_wp2
      go_ret
      exact ⟨⟨_, rfl, trivial⟩, below_drewN' hB2 _⟩
end Go.Proofs.Ytifiabhoeagblaa
