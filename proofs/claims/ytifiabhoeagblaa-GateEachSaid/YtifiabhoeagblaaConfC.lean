/-
  The document's 'may settings be?' (layers 2, 4, 11, 16, 19), as far as a law needs it that only asks whether it comes back, leaves old memory alone, and bounds the seconds behind which inputs are stale: settings. No condition.
-/
import Derived.Test.YtifiabhoeagblaaKit
import Derived.Test.YtifiabhoeagblaaChecked
import Derived.Test.YtifiabhoeagblaaGateFresh
import Derived.LoopTactic
import Derived.StillTailTactics
import Derived.Deep.RegionHeld3
import Derived.Deep.RegionWith
import Derived.Test.YtifiabhoeagblaaConfB
namespace Go.Proofs.Ytifiabhoeagblaa
open Go.ChangeShapes Go.WideShapes Go.ChangeAt Go.RowKit

theorem row20 {w : World} {g : Nat} {t : TypeId} {c0 c1 c2 c3 c4 c5 c6 c7 c8 c9 c10 c11 c12 c13 c14 c15 c16 c17 c18 c19 : Value} (h : Blk w g t #[c0, c1, c2, c3, c4, c5, c6, c7, c8, c9, c10, c11, c12, c13, c14, c15, c16, c17, c18, c19]) :
    w.cell? ⟨g, 0, none⟩ = some c0 ∧ w.cell? ⟨g, 1, none⟩ = some c1 ∧ w.cell? ⟨g, 2, none⟩ = some c2 ∧ w.cell? ⟨g, 3, none⟩ = some c3 ∧ w.cell? ⟨g, 4, none⟩ = some c4 ∧ w.cell? ⟨g, 5, none⟩ = some c5 ∧ w.cell? ⟨g, 6, none⟩ = some c6 ∧ w.cell? ⟨g, 7, none⟩ = some c7 ∧ w.cell? ⟨g, 8, none⟩ = some c8 ∧ w.cell? ⟨g, 9, none⟩ = some c9 ∧ w.cell? ⟨g, 10, none⟩ = some c10 ∧ w.cell? ⟨g, 11, none⟩ = some c11 ∧ w.cell? ⟨g, 12, none⟩ = some c12 ∧ w.cell? ⟨g, 13, none⟩ = some c13 ∧ w.cell? ⟨g, 14, none⟩ = some c14 ∧ w.cell? ⟨g, 15, none⟩ = some c15 ∧ w.cell? ⟨g, 16, none⟩ = some c16 ∧ w.cell? ⟨g, 17, none⟩ = some c17 ∧ w.cell? ⟨g, 18, none⟩ = some c18 ∧ w.cell? ⟨g, 19, none⟩ = some c19 :=
  ⟨by simpa using h.cell 0, by simpa using h.cell 1, by simpa using h.cell 2, by simpa using h.cell 3, by simpa using h.cell 4, by simpa using h.cell 5, by simpa using h.cell 6, by simpa using h.cell 7, by simpa using h.cell 8, by simpa using h.cell 9, by simpa using h.cell 10, by simpa using h.cell 11, by simpa using h.cell 12, by simpa using h.cell 13, by simpa using h.cell 14, by simpa using h.cell 15, by simpa using h.cell 16, by simpa using h.cell 17, by simpa using h.cell 18, by simpa using h.cell 19⟩

set_option maxRecDepth 10000 in
set_option maxHeartbeats 8000000 in
theorem conf_check (AS ID H R routers counts carries high low moves cycle stale warm expire pref longer routes queue : Int) (A AD : Option Addr) (c cd : Nat) (l : List IfR) (deny : List Int) (F : Nat → Prop) (w : World)
    (hl : l.length ≤ 9223372036854775807) (hdl : deny.length ≤ 9223372036854775807) (hr : Reads w F A (l.flatMap IfR.cells)) (hd : Reads w F AD (deny.map (Value.int .i64))) :
    Calls Try.prog 17 #[.agg #[.int .i64 AS, .int .u32 ID, .int .i64 H, .int .i64 R, .int .i64 routers, .int .i64 counts, .int .i64 carries, .slice A l.length c, .int .i64 high, .int .i64 low, .int .i64 moves, .int .i64 cycle, .int .i64 stale, .int .i64 warm, .int .i64 expire, .int .i64 pref, .int .i64 longer, .slice AD deny.length cd, .int .i64 routes, .int .i64 queue]] w fun e w' => RetB (fun v => v = true → 1 ≤ stale ∧ stale ≤ 1048576) e ∧ Below w.heap.size w w' := by
  have C0 := Lib.hid (Blk.new w 38 #[.int .i64 AS, .int .u32 ID, .int .i64 H, .int .i64 R, .int .i64 routers, .int .i64 counts, .int .i64 carries, .slice A l.length c, .int .i64 high, .int .i64 low, .int .i64 moves, .int .i64 cycle, .int .i64 stale, .int .i64 warm, .int .i64 expire, .int .i64 pref, .int .i64 longer, .slice AD deny.length cd, .int .i64 routes, .int .i64 queue])
  have B0 : Below w.heap.size w (w.alloc (.cells #[.int .i64 AS, .int .u32 ID, .int .i64 H, .int .i64 R, .int .i64 routers, .int .i64 counts, .int .i64 carries, .slice A l.length c, .int .i64 high, .int .i64 low, .int .i64 moves, .int .i64 cycle, .int .i64 stale, .int .i64 warm, .int .i64 expire, .int .i64 pref, .int .i64 longer, .slice AD deny.length cd, .int .i64 routes, .int .i64 queue] 38)) := (Below.refl _ _).alloc (Nat.le_refl _) _
  have R0 := Lib.hid (hr.alloc (.cells #[.int .i64 AS, .int .u32 ID, .int .i64 H, .int .i64 R, .int .i64 routers, .int .i64 counts, .int .i64 carries, .slice A l.length c, .int .i64 high, .int .i64 low, .int .i64 moves, .int .i64 cycle, .int .i64 stale, .int .i64 warm, .int .i64 expire, .int .i64 pref, .int .i64 longer, .slice AD deny.length cd, .int .i64 routes, .int .i64 queue] 38))
  have D0 := Lib.hid (hd.alloc (.cells #[.int .i64 AS, .int .u32 ID, .int .i64 H, .int .i64 R, .int .i64 routers, .int .i64 counts, .int .i64 carries, .slice A l.length c, .int .i64 high, .int .i64 low, .int .i64 moves, .int .i64 cycle, .int .i64 stale, .int .i64 warm, .int .i64 expire, .int .i64 pref, .int .i64 longer, .slice AD deny.length cd, .int .i64 routes, .int .i64 queue] 38))
  clear hr hd
  go_enter Try.func17, Try.ntmps17
  go_wp2_with (refine wpList_load_blk (by rfl) 38 (.tmp 1) rfl w.heap.size (by rfl) _ _ _ C0.out Try.underlying38 rfl (by kernel_rfl) ?_)
  refine (local_any _ _ _ _ _ _ _ _ _ _ _ _ _ _ _ _ _ _ _ _ _).mono ?_
  rintro e w1 ⟨rfl, hb⟩
  have B1 := B0.trans (hb.mono (B0.size))
  have C1 := Lib.hid (C0.out.below hb C0.out.lt)
  have R1 := Lib.hid (R0.out.below hb (fun b h _ => h))
  have D1 := Lib.hid (D0.out.below hb (fun b h _ => h))
  clear B0 C0 R0 D0 hb
  obtain ⟨k0, k1, k2, k3, k4, k5, k6, k7, k8, k9, k10, k11, k12, k13, k14, k15, k16, k17, k18, k19⟩ := row20 C1.out
  go_wp2_with fail
  refine (local_check _ _ _ _ _ _).mono ?_
  rintro e w2 ⟨⟨v, rfl, _⟩, hb⟩
  clear k0 k1 k2 k3 k4 k5 k6 k7 k8 k9 k10 k11 k12 k13 k14 k15 k16 k17 k18 k19
  have B2 := B1.trans (hb.mono (B1.size))
  have C2 := Lib.hid (C1.out.below hb C1.out.lt)
  have R2 := Lib.hid (R1.out.below hb (fun b h _ => h))
  have D2 := Lib.hid (D1.out.below hb (fun b h _ => h))
  clear B1 C1 R1 D1 hb
  obtain ⟨k0, k1, k2, k3, k4, k5, k6, k7, k8, k9, k10, k11, k12, k13, k14, k15, k16, k17, k18, k19⟩ := row20 C2.out
  cases v
  case false =>
    go_wp2_with fail
    go_ret
    exact ⟨⟨_, rfl, by intro h; cases h⟩, B2⟩
  go_wp2_with fail
  refine (within_any _ _ _ _).mono ?_
  rintro e w' ⟨⟨v, rfl, hv⟩, rfl⟩
  cases v
  case false =>
    go_wp2_with fail
    go_ret
    exact ⟨⟨_, rfl, by intro h; cases h⟩, B2⟩
  clear hv
  go_wp2_with fail
  refine (within_any _ _ _ _).mono ?_
  rintro e w' ⟨⟨v, rfl, hv⟩, rfl⟩
  cases v
  case false =>
    go_wp2_with fail
    go_ret
    exact ⟨⟨_, rfl, by intro h; cases h⟩, B2⟩
  clear hv
  go_wp2_with fail
  refine (within_any _ _ _ _).mono ?_
  rintro e w' ⟨⟨v, rfl, hv⟩, rfl⟩
  cases v
  case false =>
    go_wp2_with fail
    go_ret
    exact ⟨⟨_, rfl, by intro h; cases h⟩, B2⟩
  clear hv
  go_wp2_with fail
  refine (ifaces_check _ _ _ F _ hl R2.out).mono ?_
  rintro e w3 ⟨⟨v, rfl, _⟩, hb⟩
  clear k0 k1 k2 k3 k4 k5 k6 k7 k8 k9 k10 k11 k12 k13 k14 k15 k16 k17 k18 k19
  have B3 := B2.trans (hb.mono (B2.size))
  have C3 := Lib.hid (C2.out.below hb C2.out.lt)
  have R3 := Lib.hid (R2.out.below hb (fun b h _ => h))
  have D3 := Lib.hid (D2.out.below hb (fun b h _ => h))
  clear B2 C2 R2 D2 hb
  obtain ⟨k0, k1, k2, k3, k4, k5, k6, k7, k8, k9, k10, k11, k12, k13, k14, k15, k16, k17, k18, k19⟩ := row20 C3.out
  cases v
  case false =>
    go_wp2_with fail
    go_ret
    exact ⟨⟨_, rfl, by intro h; cases h⟩, B3⟩
  go_wp2_with fail
  refine (within_any _ _ _ _).mono ?_
  rintro e w' ⟨⟨v, rfl, hv⟩, rfl⟩
  cases v
  case false =>
    go_wp2_with fail
    go_ret
    exact ⟨⟨_, rfl, by intro h; cases h⟩, B3⟩
  clear hv
  go_wp2_with fail
  refine (within_any _ _ _ _).mono ?_
  rintro e w' ⟨⟨v, rfl, hv⟩, rfl⟩
  cases v
  case false =>
    go_wp2_with fail
    go_ret
    exact ⟨⟨_, rfl, by intro h; cases h⟩, B3⟩
  clear hv
  go_wp2_with fail
  refine (within_any _ _ _ _).mono ?_
  rintro e w' ⟨⟨v, rfl, hv⟩, rfl⟩
  cases v
  case false =>
    go_wp2_with fail
    go_ret
    exact ⟨⟨_, rfl, by intro h; cases h⟩, B3⟩
  clear hv
  go_wp2_with fail
  refine (within_any _ _ _ _).mono ?_
  rintro e w' ⟨⟨v, rfl, hv⟩, rfl⟩
  cases v
  case false =>
    go_wp2_with fail
    go_ret
    exact ⟨⟨_, rfl, by intro h; cases h⟩, B3⟩
  clear hv
  go_wp2_with fail
  refine (within_any _ _ _ _).mono ?_
  rintro e w' ⟨⟨v, rfl, hv⟩, rfl⟩
  cases v
  case false =>
    go_wp2_with fail
    go_ret
    exact ⟨⟨_, rfl, by intro h; cases h⟩, B3⟩
  have hst := hv rfl
  clear hv
  go_wp2_with fail
  refine (within_any _ _ _ _).mono ?_
  rintro e w' ⟨⟨v, rfl, hv⟩, rfl⟩
  cases v
  case false =>
    go_wp2_with fail
    go_ret
    exact ⟨⟨_, rfl, by intro h; cases h⟩, B3⟩
  clear hv
  go_wp2_with fail
  refine (within_any _ _ _ _).mono ?_
  rintro e w' ⟨⟨v, rfl, hv⟩, rfl⟩
  cases v
  case false =>
    go_wp2_with fail
    go_ret
    exact ⟨⟨_, rfl, by intro h; cases h⟩, B3⟩
  clear hv
  go_wp2_with fail
  refine (within_any _ _ _ _).mono ?_
  rintro e w' ⟨⟨v, rfl, hv⟩, rfl⟩
  cases v
  case false =>
    go_wp2_with fail
    go_ret
    exact ⟨⟨_, rfl, by intro h; cases h⟩, B3⟩
  clear hv
  go_wp2_with fail
  refine (within_any _ _ _ _).mono ?_
  rintro e w' ⟨⟨v, rfl, hv⟩, rfl⟩
  cases v
  case false =>
    go_wp2_with fail
    go_ret
    exact ⟨⟨_, rfl, by intro h; cases h⟩, B3⟩
  clear hv
  by_cases h16 : (16 : Int) < deny.length
  case pos =>
    go_wp2_with fail
    go_ret
    exact ⟨⟨_, rfl, by intro h; cases h⟩, B3⟩
  go_wp2_with fail
  refine (within_any _ _ _ _).mono ?_
  rintro e w' ⟨⟨v, rfl, hv⟩, rfl⟩
  cases v
  case false =>
    go_wp2_with fail
    go_ret
    exact ⟨⟨_, rfl, by intro h; cases h⟩, B3⟩
  clear hv
  go_wp2_with fail
  refine (within_any _ _ _ _).mono ?_
  rintro e w' ⟨⟨v, rfl, hv⟩, rfl⟩
  cases v
  case false =>
    go_wp2_with fail
    go_ret
    exact ⟨⟨_, rfl, by intro h; cases h⟩, B3⟩
  clear hv
  clear k0 k1 k2 k3 k4 k5 k6 k7 k8 k9 k10 k11 k12 k13 k14 k15 k16 k17 k18 k19
  go_wp2_with fail
  go_loopw [4] (fun i wr => ∃ k : Nat, k ≤ l.length ∧ i = .int .i64 k ∧ Below w3.heap.size w3 wr) (fun i _ => l.length - (intOf i).toNat)
  case atStart => exact ⟨0, by omega, rfl, Below.refl _ _⟩
  case round =>
    obtain ⟨k, hk, rfl, hb⟩ := hrel
    have hB := B3.trans (hb.mono B3.size)
    have hC := C3.out.below hb C3.out.lt
    obtain ⟨k0, k1, k2, k3, k4, k5, k6, k7, k8, k9, k10, k11, k12, k13, k14, k15, k16, k17, k18, k19⟩ := row20 hC
    by_cases hkl : k < l.length
    case pos =>
      have hr := R3.out.below hb (fun _ h _ => h)
      obtain ⟨b, off, rfl, _, _, r, _, _, d1, _, _, _⟩ := ifs_cells hr hkl
      obtain ⟨rI, rR, rA, rL, rC⟩ := r
      simp only at d1
      have i0 : (0 : Int) ≤ (k : Int) := by omega
      have i1 : (k : Int) < (l.length : Int) := by omega
      have HC := Lib.hid hC
      clear hC hr
      by_cases hg : routers ≤ rR
      case pos =>
        have dg : decide (routers ≤ rR) = true := by simpa using hg
        go_wp2_with fail
        go_quiet (fail)
        go_wp2
        go_ret
        exact ⟨⟨_, rfl, by intro h; cases h⟩, below_drewN' hB _⟩
      have dg : decide (routers ≤ rR) = false := by simpa using hg
      go_wp2_with fail
      go_quiet (fail)
      go_wp2
      go_roundw
      case rel => exact ⟨k + 1, by omega, by go_num, below_drewN' hb _⟩
      case measure => simp [intOf]; omega
    have D4 := Lib.hid (D3.out.below hb (fun _ h _ => h))
    have C4 := Lib.hid hC
    have B4 := hB
    clear B3 C3 R3 D3 hb hB hC
    obtain ⟨w4, hw4⟩ : ∃ w4, w4 = wr := ⟨_, rfl⟩
    subst hw4
    have l0 : ¬ (k : Int) < (l.length : Int) := by omega
    go_wp2_with fail
    clear k0 k1 k2 k3 k4 k5 k6 k7 k8 k9 k10 k11 k12 k13 k14 k15 k16 k17 k18 k19
    go_loopw [5] (fun i wr => ∃ j : Nat, j ≤ deny.length ∧ i = .int .i64 j ∧ Below w4.heap.size w4 wr) (fun i _ => deny.length - (intOf i).toNat)
    case atStart => exact ⟨0, by omega, rfl, Below.refl _ _⟩
    case round =>
      obtain ⟨j, hj, rfl, hb⟩ := hrel
      have hB := B4.trans (hb.mono B4.size)
      obtain ⟨k0, k1, k2, k3, k4, k5, k6, k7, k8, k9, k10, k11, k12, k13, k14, k15, k16, k17, k18, k19⟩ := row20 (C4.out.below hb C4.out.lt)
      by_cases hjl : j < deny.length
      case pos =>
        have hd := D4.out.below hb (fun _ h _ => h)
        obtain ⟨b, off, rfl, _, _, hc⟩ := hd.at_ (k := j) (by simpa using hjl)
        simp only [List.getElem_map] at hc
        have i0 : (0 : Int) ≤ (j : Int) := by omega
        have i1 : (j : Int) < (deny.length : Int) := by omega
        generalize deny[j] = x at hc
        clear hd
        go_wp2_with fail
        refine (within_any _ _ _ _).mono ?_
        rintro e w' ⟨⟨v, rfl, _⟩, rfl⟩
        cases v
        case false =>
          go_wp2_with fail
          go_ret
          exact ⟨⟨_, rfl, by intro h; cases h⟩, hB⟩
        go_wp2_with fail
        go_roundw
        case rel => exact ⟨j + 1, by omega, by go_num, hb⟩
        case measure => simp [intOf]; omega
      go_wp2_with fail
      go_ret
      exact ⟨⟨_, rfl, fun _ => hst⟩, hB⟩
end Go.Proofs.Ytifiabhoeagblaa
