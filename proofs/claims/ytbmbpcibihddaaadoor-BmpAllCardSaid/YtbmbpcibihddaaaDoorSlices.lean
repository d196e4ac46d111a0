/-
  The library's slices of bytes: Grow of nothing, Concat, Equal, one contract each. No condition but that the bytes read as data.
-/
import Derived.Test.YtbmbpcibihddaaaDoorNumNum
import Derived.Lib.AppendZerosOnto
import Derived.LoopTactic
namespace Go.Proofs.YtbmbpcibihddaaaDoor
open Go.ChangeShapes Go.WideShapes Go.ChangeAt Go.RowKit

/-- a row of bytes among rows: where it lies, its capacity, its bytes -/
structure BRow where
  A : Option Addr
  c : Nat
  b : List UInt8
def BRow.cell (r : BRow) : Value := .slice r.A r.b.length r.c

theorem own_grown (w : World) (B G : Nat) (cs : Array Value) (hB : B ≤ w.heap.size) (hG : G ≤ maxLen) (hs : cs.size = G) : (w.drew.alloc (.cells cs 5)).ownsRow B 5 1 (.slice (some ⟨w.heap.size, 0, none⟩) 0 G) 0 [] :=
  ⟨by simp, .inr ⟨w.heap.size, G, cs, rfl, hB, heap_alloc_new w.drew _, Nat.zero_le _, hG, by rw [hs, Nat.mul_one], by simp⟩⟩

set_option maxHeartbeats 1000000 in
theorem grow_nil (n : Nat) (w : World) (hn : n ≤ 140737488355328) :
    Calls Tryd.prog 59 #[.slice none 0 0, .int .i64 n] w fun e w' => ∃ v, e = .returned v ∧ w'.ownsRow w.heap.size 5 1 v 0 [] ∧ Below w.heap.size w w' := by
  obtain ⟨i0, hi, hz0, hz1, hz2⟩ := info_parts infoU8
  have h1 : ¬ ((n : Int) < 0) := by omega
  rcases Nat.eq_zero_or_pos n with rfl | h0
  · go_enter Tryd.func59, Tryd.ntmps59
    go_wp2
    go_ret
    exact ⟨_, rfl, own_nil _ _ _ _, Below.refl _ _⟩
  · have hrz : ∀ ty, (Builtin.append_ #[25, 3] ty #[.slice none 0 0, .int .i64 (n : Int)]).run Tryd.prog w =
        .ok (.slice (some ⟨w.heap.size, 0, none⟩) (0 + n) (grownCap w (0 + n) 0 5)) (w.drew.alloc (.cells ([].toArray ++ Builtin.zeroCells (Value.int .u8 0).cells n ++ Builtin.zeroCells (Value.int .u8 0).cells (grownCap w (0 + n) 0 5 - (0 + n))) 5)) := fun ty =>
      Lib.run_append_grow_zeros w 25 3 ty 5 i0 (.int .u8 0) .i64 .i64 Tryd.underlying25 Tryd.underlying3 hi hz0 none 0 0 [] (run_firstCells_none w.drew i0.size 0 0 0) n h0 (by omega) (by omega) (by omega) (by rw [hz2]; omega) (growslice_fits (by omega) (by rw [hz2]; omega))
    have hGn : 0 + n ≤ grownCap w (0 + n) 0 5 := grownCap_ge w _ _ _
    have hGm := grownCap_le_maxLen w (0 + n) 0 5 (by unfold maxLen; omega)
    obtain ⟨G, hG⟩ : ∃ G, G = grownCap w (0 + n) 0 5 := ⟨_, rfl⟩
    rw [← hG] at hrz hGn hGm
    have hsz : ([].toArray ++ Builtin.zeroCells (Value.int .u8 0).cells n ++ Builtin.zeroCells (Value.int .u8 0).cells (G - (0 + n))).size = G := by
      simp [size_zeroCells, Value.cells]
      omega
    have hfin := Lib.hid (own_grown w w.heap.size G _ (Nat.le_refl _) hGm hsz)
    have hbel := Lib.hid (((Below.refl w.heap.size w).drew).alloc (Nat.le_refl _) (.cells ([].toArray ++ Builtin.zeroCells (Value.int .u8 0).cells n ++ Builtin.zeroCells (Value.int .u8 0).cells (G - (0 + n))) 5))
    have hG63 : G ≤ 9223372036854775807 := by unfold maxLen at hGm; omega
    clear hG hsz hGm
    generalize ([].toArray ++ Builtin.zeroCells (Value.int .u8 0).cells n ++ Builtin.zeroCells (Value.int .u8 0).cells (G - (0 + n))) = cs at hrz hfin hbel
    go_enter Tryd.func59, Tryd.ntmps59
    go_wp2_with (at_builtin; refine Lib.wpList_append_run _ rfl _ _ _ _ rfl _ _ rfl rfl _ _ (hrz _) ?_)
    go_ret
    exact ⟨_, rfl, hfin.out, hbel.out⟩

theorem drewN2 (w : World) (n m : Nat) : (w.drewN n).drewN m = w.drewN (n + m) := by simp [World.drewN, Nat.add_assoc]

/-- are bytes the same? -/
def eqB (a b : List UInt8) : Bool := decide (a = b)

theorem vb_inj {a b : UInt8} : (vb a = vb b) ↔ a = b := by
  unfold vb
  constructor
  · intro h
    injection h with _ h
    exact UInt8.toNat_inj.1 (by omega)
  · rintro rfl; rfl
theorem take_snoc_eq {a b : List UInt8} {k : Nat} (ha : k < a.length) (hb : k < b.length) (ht : a.take k = b.take k) (he : a[k] = b[k]) : a.take (k + 1) = b.take (k + 1) := by
  rw [List.take_succ_eq_append_getElem ha, List.take_succ_eq_append_getElem hb, ht, he]

set_option maxHeartbeats 1000000 in
theorem equal_u8 (A A' : Option Addr) (c c' : Nat) (l l' : List UInt8) (F F' : Nat → Prop) (w : World) (hl : l.length ≤ 9223372036854775807) (hl' : l'.length ≤ 9223372036854775807) (hr : Reads w F A (l.map vb)) (hr' : Reads w F' A' (l'.map vb)) :
    Calls Tryd.prog 84 #[.slice A l.length c, .slice A' l'.length c'] w fun e w' => e = .returned (.bool (eqB l l')) ∧ ∃ n, w' = w.drewN n := by
  by_cases hlen : l.length = l'.length
  · have hlen' : ((l.length : Int) = (l'.length : Int)) := by omega
    go_enter Tryd.func84, Tryd.ntmps84
    go_wp2
    go_loopw [13] (fun i wr => ∃ k n : Nat, k ≤ l.length ∧ i = .int .i64 k ∧ wr = w.drewN n ∧ l.take k = l'.take k) (fun i _ => l.length - (intOf i).toNat)
    case atStart => exact ⟨0, 0, by omega, rfl, rfl, rfl⟩
    case round =>
      obtain ⟨k, n, hk, rfl, rfl, ht⟩ := hrel
      by_cases hkl : k < l.length
      · obtain ⟨b, off, rfl, _, hbl, hc⟩ := hr.at_ (k := k) (by simpa using hkl)
        obtain ⟨b', off', rfl, _, hbl', hc'⟩ := hr'.at_ (k := k) (by simpa using (by omega : k < l'.length))
        simp only [List.getElem_map, vb] at hc hc'
        by_cases he : l[k] = l'[k]'(by omega)
        · have HT := Lib.hid (take_snoc_eq hkl (by omega) ht he)
          rw [← he] at hc'
          clear ht hr hr' he
          generalize l[k].toNat = x at hc hc'
          have k1 : (k : Int) < (l.length : Int) := by omega
          have k2 : (k : Int) < (l'.length : Int) := by omega
          go_wp2_with fail
          go_quiet (fail)
          go_wp2_with fail
          exact ⟨⟨k + 1, n + nq, by omega, by simp, by first | rfl | exact drewN2 _ _ _, HT.out⟩, by simp [intOf]; omega⟩
        · have hne : ¬ ((l[k].toNat : Int) = ((l'[k]'(by omega)).toNat : Int)) := fun h => he (UInt8.toNat_inj.1 (by omega))
          have HB := Lib.hid (show eqB l l' = false from by
            unfold eqB
            simp
            rintro rfl
            exact he rfl)
          generalize l[k].toNat = x at hc hne
          generalize (l'[k]'(by omega)).toNat = x' at hc' hne
          have k1 : (k : Int) < (l.length : Int) := by omega
          have k2 : (k : Int) < (l'.length : Int) := by omega
          clear ht hr hr' he
          go_wp2_with fail
          go_quiet (fail)
          go_wp2_with fail
          go_ret
          exact ⟨by rw [HB.out]; rfl, n + nq, by first | rfl | exact drewN2 _ _ _⟩
      · obtain rfl : k = l.length := by omega
        have HB := Lib.hid (show eqB l l' = true from by
          unfold eqB
          simp at ht ⊢
          rw [hlen, List.take_length] at ht
          exact ht)
        go_wp2_with fail
        go_ret
        exact ⟨by rw [HB.out]; rfl, _, rfl⟩
  · have hlen' : ¬ ((l.length : Int) = (l'.length : Int)) := by omega
    have HB := Lib.hid (show eqB l l' = false from by
      unfold eqB
      simp
      rintro rfl
      exact hlen rfl)
    go_enter Tryd.func84, Tryd.ntmps84
    go_wp2
    go_ret
    exact ⟨by rw [HB.out]; rfl, 0, rfl⟩

/-- rows of bytes, one behind the other -/
def flat (rows : List BRow) : List UInt8 := rows.flatMap (·.b)
theorem flat_take {rows : List BRow} {k : Nat} (h : k < rows.length) : flat (rows.take (k + 1)) = flat (rows.take k) ++ rows[k].b := by
  unfold flat
  rw [List.take_succ_eq_append_getElem h, List.flatMap_append]
  simp
theorem flat_le (rows : List BRow) (k : Nat) : (flat (rows.take k)).length ≤ (flat rows).length := by
  have h : flat rows = flat (rows.take k) ++ flat (rows.drop k) := by
    unfold flat
    rw [← List.flatMap_append, List.take_append_drop]
  rw [h, List.length_append]
  omega

set_option maxHeartbeats 1000000 in
theorem concat_u8 (A : Option Addr) (c : Nat) (rows : List BRow) (F : Nat → Prop) (w : World) (hl : rows.length ≤ 9223372036854775807) (ht : (flat rows).length ≤ 140737488355328) (hr : Reads w F A (rows.map BRow.cell)) (hrow : ∀ r ∈ rows, Reads w F r.A (r.b.map vb)) :
    Calls Tryd.prog 30 #[.slice A rows.length c] w fun e w' => ∃ v, e = .returned v ∧ w'.ownsRow w.heap.size 5 1 v (flat rows).length ((flat rows).map vb) ∧ Below w.heap.size w w' := by
  obtain ⟨i0, hi, hz0, hz1, hz2⟩ := info_parts infoU8
  have hr' := hr.mono (G := (· < w.heap.size)) (fun k hk _ => hk)
  have hrow' := Lib.hid fun r hrl => (hrow r hrl).mono (G := (· < w.heap.size)) (fun k hk _ => hk)
  clear hr hrow
  go_enter Tryd.func30, Tryd.ntmps30
  go_wp2_with fail
  go_loop [3, 11] (fun n i => ∃ k : Nat, k ≤ rows.length ∧ i = .int .i64 k ∧ n = .int .i64 (flat (rows.take k)).length) (fun _ i => rows.length - (intOf i).toNat)
  case atStart => exact ⟨0, by omega, rfl, rfl⟩
  case round =>
    obtain ⟨k, hk, rfl, rfl⟩ := hrel
    by_cases hkl : k < rows.length
    · obtain ⟨b, off, rfl, hbw, hbl, hc⟩ := hr'.at_ (k := k) (by simpa using hkl)
      simp only [List.getElem_map, BRow.cell] at hc
      have HF := flat_take hkl
      have hle1 := flat_le rows (k + 1)
      rw [HF, List.length_append] at hle1
      have HG := Lib.hid (congrArg List.length HF |>.trans List.length_append)
      clear HF
      generalize (flat (rows.take k)).length = m at hle1 HG ⊢
      generalize rows[k].b.length = bl at hle1 HG hc
      have h0 : ¬ ((m : Int) + (bl : Int) < 0) := by omega
      go_wp2_with fail
      exact ⟨⟨k + 1, by omega, by simp, by rw [HG.out]; simp⟩, by simp [intOf]; omega⟩
    · obtain rfl : k = rows.length := by omega
      rw [List.take_length]
      go_wp2_with fail
      refine (grow_nil _ _ ht).mono ?_
      rintro e w1 ⟨v, rfl, hown, hb⟩
      go_wp2_with fail
      go_loopw [6, 27] (fun v i wr => ∃ k : Nat, k ≤ rows.length ∧ i = .int .i64 k ∧ wr.ownsRow w.heap.size 5 1 v (flat (rows.take k)).length ((flat (rows.take k)).map vb) ∧ Below w.heap.size w wr) (fun _ i _ => rows.length - (intOf i).toNat)
      case atStart => exact ⟨0, by omega, rfl, by simpa [flat] using hown, hb⟩
      case round =>
        obtain ⟨k, hk, rfl, hown2, hb2⟩ := hrel
        clear hown hb
        by_cases hkl : k < rows.length
        · obtain ⟨b, off, rfl, hbw, hbl, hc⟩ := (hr'.below hb2 (fun _ _ h => h)).at_ (k := k) (by simpa using hkl)
          simp only [List.getElem_map, BRow.cell] at hc
          have hrb := (hrow'.out rows[k] (List.getElem_mem hkl)).below hb2 (fun _ _ h => h)
          have HF := flat_take hkl
          have hle1 := flat_le rows (k + 1)
          rw [HF, List.length_append] at hle1
          have HG := Lib.hid HF
          clear HF hr'
          generalize rows[k] = r at hle1 HG hc hrb
          generalize flat (rows.take k) = pre at hle1 HG hown2
          go_wp2_with (refine wpList_append_rd _ rfl (.tmp 31) (.tmp 32) 25 rfl w.heap.size 5 i0 (.int .u8 0) 1 1 Tryd.underlying25 hi hz0 hz1 hz2 rfl (by omega) _ pre.length (pre.map vb) (by rfl) hown2 (· < w.heap.size) r.A r.b.length r.c (r.b.map vb) (by rfl) (by simp) hrb (vb_one _) (by unfold maxLen; omega) (by omega) hb2.size ?_)
          intro v3 w3 hown3 hg3 hat3
          have hb3 := below_append hb2 hb2.size hown2 hg3
          clear hrb hc hown2 hg3
          go_wp2_with fail
          refine ⟨⟨k + 1, by omega, by simp, ?_, hb3⟩, by simp [intOf]; omega⟩
          rw [HG.out, List.map_append, List.length_append]
          exact hown3
        · obtain rfl : k = rows.length := by omega
          rw [List.take_length] at hown2
          go_wp2_with fail
          go_ret
          exact ⟨_, rfl, hown2, hb2⟩
end Go.Proofs.YtbmbpcibihddaaaDoor
