/-
  The document's 'may settings be?' (layers 2, 4, 11, 16, 19), as far as a law needs it that only asks whether it comes back, leaves old memory alone, and bounds the seconds behind which inputs are stale: single numbers, routers, prefixes. No condition.
-/
import Derived.Test.YtifiabhoeagblaaKit
import Derived.Test.YtifiabhoeagblaaChecked
import Derived.Test.YtifiabhoeagblaaGateFresh
import Derived.LoopTactic
import Derived.StillTailTactics
import Derived.Deep.RegionHeld3
import Derived.Deep.RegionWith
namespace Go.Proofs.Ytifiabhoeagblaa
open Go.ChangeShapes Go.WideShapes Go.ChangeAt Go.RowKit

theorem below_drew' {B : Nat} {a w : World} (h : Below B a w) : Below B a w.drew := ⟨h.os, h.tape, h.output, h.size, h.block⟩
structure RetB (Q : Bool → Prop) (e : Ending) : Prop where
  ex : ∃ v, e = .returned (.bool v) ∧ Q v
structure RetV (Q : Value → Prop) (e : Ending) : Prop where
  ex : ∃ v, e = .returned v ∧ Q v

theorem within_any (n lo hi : Int) (w : World) : Calls Try.prog 33 #[.int .i64 n, .int .i64 lo, .int .i64 hi] w fun e w' => RetB (fun v => v = true → lo ≤ n ∧ n ≤ hi) e ∧ w = w' := by
  by_cases h0 : lo ≤ n
  case neg =>
    go_enter Try.func33, Try.ntmps33
    go_wp2
    go_ret
    exact ⟨⟨_, rfl, by intro h; cases h⟩, rfl⟩
  by_cases h1 : n ≤ hi
  case neg =>
    go_enter Try.func33, Try.ntmps33
    go_wp2
    go_ret
    exact ⟨⟨_, rfl, by intro h; cases h⟩, rfl⟩
  go_enter Try.func33, Try.ntmps33
  go_wp2
  go_ret
  exact ⟨⟨_, rfl, fun _ => ⟨h0, h1⟩⟩, rfl⟩

theorem local_any (AS ID H R : Int) (c4 c5 c6 c7 c8 c9 c10 c11 c12 c13 c14 c15 c16 c17 c18 c19 : Value) (w : World) :
    Calls Try.prog 32 #[.agg #[.int .i64 AS, .int .u32 ID, .int .i64 H, .int .i64 R, c4, c5, c6, c7, c8, c9, c10, c11, c12, c13, c14, c15, c16, c17, c18, c19]] w
      fun e w' => e = .returned (.agg #[.int .i64 AS, .int .i64 H, .int .u32 ID, .bool true, .int .i64 1, .int .i64 R]) ∧ Below w.heap.size w w' := by
  go_enter Try.func32, Try.ntmps32
  go_wp2_with fail
  exact bodyPost_ret (results_cell_row rfl _ _ _ 73 #[.int .i64 AS, .int .i64 H, .int .u32 ID, .bool true, .int .i64 1, .int .i64 R] (0, 0) _ (by simp) (heap_alloc_new _ _) Try.underlying73 rfl (by kernel_rfl)) rfl ⟨rfl, ((Below.refl _ _).alloc (Nat.le_refl _) _).alloc (by simp) _⟩

set_option maxHeartbeats 4000000 in
theorem open_check (AS H ID P : Int) (w : World) : Calls Try.prog 39 #[.agg #[.int .i64 AS, .int .i64 H, .int .u32 ID, .bool true, .int .i64 P]] w fun e w' => RetB (fun _ => True) e ∧ Below w.heap.size w w' := by
  by_cases g0 : 1 ≤ AS
  case neg =>
    go_enter Try.func39, Try.ntmps39
    go_wp2
    go_ret
    exact ⟨⟨_, rfl, trivial⟩, (Below.refl _ _).alloc (Nat.le_refl _) _⟩
  by_cases g1 : AS ≤ 4294967295
  case neg =>
    go_enter Try.func39, Try.ntmps39
    go_wp2
    go_ret
    exact ⟨⟨_, rfl, trivial⟩, (Below.refl _ _).alloc (Nat.le_refl _) _⟩
  by_cases g2 : 0 ≤ H
  case neg =>
    go_enter Try.func39, Try.ntmps39
    go_wp2
    go_ret
    exact ⟨⟨_, rfl, trivial⟩, (Below.refl _ _).alloc (Nat.le_refl _) _⟩
  by_cases g3 : H ≤ 65535
  case neg =>
    go_enter Try.func39, Try.ntmps39
    go_wp2
    go_ret
    exact ⟨⟨_, rfl, trivial⟩, (Below.refl _ _).alloc (Nat.le_refl _) _⟩
  by_cases g4 : H = 1
  case pos =>
    subst g4
    go_enter Try.func39, Try.ntmps39
    go_wp2
    go_ret
    exact ⟨⟨_, rfl, trivial⟩, (Below.refl _ _).alloc (Nat.le_refl _) _⟩
  by_cases g5 : H = 2
  case pos =>
    subst g5
    go_enter Try.func39, Try.ntmps39
    go_wp2
    go_ret
    exact ⟨⟨_, rfl, trivial⟩, (Below.refl _ _).alloc (Nat.le_refl _) _⟩
  by_cases g6 : ID = 0
  case pos =>
    subst g6
    go_enter Try.func39, Try.ntmps39
    go_wp2
    go_ret
    exact ⟨⟨_, rfl, trivial⟩, (Below.refl _ _).alloc (Nat.le_refl _) _⟩
  by_cases g7 : 0 ≤ P
  case neg =>
    go_enter Try.func39, Try.ntmps39
    go_wp2
    go_ret
    exact ⟨⟨_, rfl, trivial⟩, (Below.refl _ _).alloc (Nat.le_refl _) _⟩
  by_cases g8 : P ≤ 3
  case neg =>
    go_enter Try.func39, Try.ntmps39
    go_wp2
    go_ret
    exact ⟨⟨_, rfl, trivial⟩, (Below.refl _ _).alloc (Nat.le_refl _) _⟩
  go_enter Try.func39, Try.ntmps39
  go_wp2
  go_ret
  exact ⟨⟨_, rfl, trivial⟩, (Below.refl _ _).alloc (Nat.le_refl _) _⟩

theorem local_check (AS H ID P R : Int) (w : World) : Calls Try.prog 31 #[.agg #[.int .i64 AS, .int .i64 H, .int .u32 ID, .bool true, .int .i64 P, .int .i64 R]] w fun e w' => RetB (fun _ => True) e ∧ Below w.heap.size w w' := by
  go_enter Try.func31, Try.ntmps31
  go_wp2_with fail
  refine (open_check _ _ _ _ _).mono ?_
  rintro e w1 ⟨⟨v, rfl, _⟩, hb⟩
  have hr : w1.cell? ⟨w.heap.size, 5, none⟩ = some (.int .i64 R) := (hb.cell (p := ⟨w.heap.size, 5, none⟩) (by simp)).trans (by go_simp)
  have hb' : Below w.heap.size w w1 := ((Below.refl _ _).alloc (Nat.le_refl _) _).trans (hb.mono (by simp))
  clear hb
  cases v
  case false =>
    go_wp2_with fail
    go_ret
    exact ⟨⟨_, rfl, trivial⟩, hb'⟩
  by_cases h1 : 1 ≤ R
  case neg =>
    go_wp2_with fail
    go_ret
    exact ⟨⟨_, rfl, trivial⟩, hb'⟩
  by_cases h2 : R ≤ 65535
  case neg =>
    go_wp2_with fail
    go_ret
    exact ⟨⟨_, rfl, trivial⟩, hb'⟩
  go_wp2_with fail
  go_ret
  exact ⟨⟨_, rfl, trivial⟩, hb'⟩


def bitV (a i : Int) : Int := a.tdiv (2 ^ (31 - i).toNat % 4294967296) % 4294967296 % 2
def mkV (a : Int) : Nat → Int
  | 0 => 0
  | k + 1 => (mkV a k + bitV a k * 2 ^ (31 - k) % 4294967296) % 4294967296
theorem bit_any (a i : Int) (w : World) (h0 : 0 ≤ i) (h1 : i ≤ 31) : Calls Try.prog 43 #[.int .u32 a, .int .i64 i] w fun e w' => e = .returned (.int .u32 (bitV a i)) ∧ w = w' := by
  have hne : ¬ ((2 : Int) ^ (31 - i).toNat % 4294967296 = 0) := by
    have h2 : (2 : Int) ^ (31 - i).toNat < 2 ^ 32 := Int.pow_lt_pow_of_lt (by decide) (by omega)
    have h3 : (0 : Int) < 2 ^ (31 - i).toNat := Int.pow_pos (by decide)
    rw [Int.emod_eq_of_lt (by omega) (by omega)]
    omega
  go_enter Try.func43, Try.ntmps43
  go_wp2
  go_ret
  exact ⟨rfl, rfl⟩

theorem make_any (a n : Int) (w : World) (h0 : 0 ≤ n) (h1 : n ≤ 32) : Calls Try.prog 42 #[.int .u32 a, .int .i64 n] w fun e w' => e = .returned (.agg #[.int .u32 (mkV a n.toNat), .int .i64 n]) ∧ Below w.heap.size w w' := by
  have hs : (w.alloc (.cells #[.int .u32 0, .int .i64 0] 78)).heap.size = w.heap.size + 1 := by simp
  have b0 : Blk ((w.alloc (.cells #[.int .u32 0, .int .i64 0] 78)).alloc (.cells #[.int .u32 0, .int .i64 n] 78)) (w.heap.size + 1) 78 #[.int .u32 0, .int .i64 n] := by
    have := Blk.new (w.alloc (.cells #[.int .u32 0, .int .i64 0] 78)) 78 #[.int .u32 0, .int .i64 n]
    rw [hs] at this
    exact this
  have b1 : Blk ((w.alloc (.cells #[.int .u32 0, .int .i64 0] 78)).alloc (.cells #[.int .u32 0, .int .i64 n] 78)) w.heap.size 78 #[.int .u32 0, .int .i64 0] := (Blk.new _ _ _).alloc _
  have B0 := Lib.hid b0
  have B1 := Lib.hid b1
  clear b0 b1 hs
  go_enter Try.func42, Try.ntmps42
  go_wp2_with fail
  go_loopw [6] (fun i wr => ∃ (k : Nat), (k : Int) ≤ n ∧ i = .int .i64 k ∧ Blk wr (w.heap.size + 1) 78 #[.int .u32 (mkV a k), .int .i64 n] ∧ Blk wr w.heap.size 78 #[.int .u32 0, .int .i64 0] ∧ Below w.heap.size w wr) (fun i _ => n.toNat - (intOf i).toNat)
  case atStart => exact ⟨0, by omega, rfl, B0.out, B1.out, ((Below.refl _ _).alloc (Nat.le_refl _) _).alloc (by simp) _⟩
  case round =>
    obtain ⟨k, hk, rfl, h2, h3, hb⟩ := hrel
    have HM := Lib.hid (show mkV a (k + 1) = (mkV a k + bitV a k * 2 ^ (31 - k) % 4294967296) % 4294967296 from rfl)
    generalize hx : mkV a k = x at h2 HM
    generalize hy : bitV a k = y at HM
    by_cases hkn : (k : Int) < n
    case pos =>
      have hw : IntKind.i64.wrap (31 - (k : Int)) = 31 - (k : Int) := IntWalk.i64_in _ (by omega)
      have hs0 : (0 : Int) ≤ 31 - (k : Int) := by omega
      have d0 : wr.cell? ⟨w.heap.size + 1, 0, none⟩ = some (.int .u32 x) := by have := h2.cell 0; simpa using this
      have f0 := h2.frozen 0
      go_wp2_with fail
      have hbv : bitV a k = y := hy
      go_region_with (go_at_call 43; refine (bit_any _ _ _ (by omega) (by omega)).mono ?_; rintro e w1 ⟨rfl, rfl⟩; rw [hbv])
      all_goals
        go_wp2
        go_roundw
        case rel => exact ⟨k + 1, by omega, by go_num, by rw [HM.out]; exact h2.set_ 0 _, h3.far (by simp) _, below_drew' (hb.setCell (p := ⟨w.heap.size + 1, 0, none⟩) (by simp) _)⟩
        case measure => simp [intOf]; omega
    case neg =>
      have hkn' : n.toNat = k := by omega
      have HK := Lib.hid hx
      have HN := Lib.hid hkn'
      clear hkn' hx
      have d0 : wr.cell? ⟨w.heap.size + 1, 0, none⟩ = some (.int .u32 x) := by have := h2.cell 0; simpa using this
      have d1 : wr.cell? ⟨w.heap.size + 1, 1, none⟩ = some (.int .i64 n) := by have := h2.cell 1; simpa using this
      have e0 : wr.cell? ⟨w.heap.size, 0, none⟩ = some (.int .u32 0) := by have := h3.cell 0; simpa using this
      have e1 : wr.cell? ⟨w.heap.size, 1, none⟩ = some (.int .i64 0) := by have := h3.cell 1; simpa using this
      have f0 := h3.frozen 0
      have f1 := h3.frozen 1
      have hz := (h3.set_ 0 (.int .u32 x)).set_ 1 (.int .i64 n)
      simp at hz
      have HZ := Lib.hid hz
      clear hz
      go_wp2_with fail
      exact bodyPost_ret (results_cell_row rfl _ _ _ 78 #[.int .u32 x, .int .i64 n] (0, 0) _ rfl HZ.out Try.underlying78 rfl (by kernel_rfl)) rfl ⟨by rw [HN.out, HK.out], (hb.setCell (p := ⟨w.heap.size, 0, none⟩) (Nat.le_refl _) _).setCell (p := ⟨w.heap.size, 1, none⟩) (Nat.le_refl _) _⟩

set_option maxHeartbeats 4000000 in
theorem prefix_check (a n : Int) (w : World) : Calls Try.prog 40 #[.agg #[.int .u32 a, .int .i64 n]] w fun e w' => RetB (fun _ => True) e ∧ Below w.heap.size w w' := by
  by_cases h0 : 0 ≤ n
  case neg =>
    have hd : decide (0 ≤ n) = false := by simpa using h0
    go_enter Try.func40, Try.ntmps40
    go_wp2_with fail
    go_quiet (fail)
    go_wp2
    go_ret
    exact ⟨⟨_, rfl, trivial⟩, below_drewN' ((Below.refl _ _).alloc (Nat.le_refl _) _) _⟩
  by_cases h1 : n ≤ 32
  case neg =>
    have hd : decide (n ≤ 32) = false := by simpa using h1
    go_enter Try.func40, Try.ntmps40
    go_wp2_with fail
    go_quiet (fail)
    go_wp2
    go_ret
    exact ⟨⟨_, rfl, trivial⟩, below_drewN' ((Below.refl _ _).alloc (Nat.le_refl _) _) _⟩
  have HP := Lib.hid h1
  by_cases hm : mkV a n.toNat = a
  all_goals
    go_enter Try.func40, Try.ntmps40
    go_wp2_with fail
    go_region_held3 (fun w' => w'.cell? ⟨w.heap.size, 0, none⟩ = some (.int .u32 a) ∧ w'.cell? ⟨w.heap.size, 1, none⟩ = some (.int .i64 n)) (first | go_keep | exact hk1)
      (first | (go_at_call 42; refine (make_any a n _ h0 h1).mono ?_; rintro e w1 ⟨rfl, hb⟩; have hk1 : w1.cell? ⟨w.heap.size, 0, none⟩ = some (.int .u32 a) ∧ w1.cell? ⟨w.heap.size, 1, none⟩ = some (.int .i64 n) := ⟨(hb.cell (p := ⟨w.heap.size, 0, none⟩) (by simp)).trans (by go_simp), (hb.cell (p := ⟨w.heap.size, 1, none⟩) (by simp)).trans (by go_simp)⟩))
    go_wp2
    go_ret
    exact ⟨⟨_, rfl, trivial⟩, (below_drew' ((Below.refl _ _).alloc (Nat.le_refl _) _)).trans (hb.mono (by simp))⟩
end Go.Proofs.Ytifiabhoeagblaa
