/-
  The library's Equal of bytes, and a row of bytes four by four. Under: a body that turns one old block alone.
-/
import Derived.Test.YtojcehhfeleclaaGreatDoorChecked
import Derived.Test.YtojcehhfeleclaaGreatDoorBytes
import Derived.Lib.AppendZerosOnto
import Derived.LoopTactic
import Derived.RangeFuncNested
import Derived.RangeFuncBound
import Derived.RangeFuncCalls
import Derived.RangeFuncLeaves
import Derived.Shelf.Abstract
import Derived.Shelf.RegionOpen
import Derived.OwnWalkIn
import Derived.TacticsInMore
import Derived.LoopNIn
import Derived.LoopIn
import Derived.Sort.QuietIn
namespace Go.Proofs.YtojcehhfeleclaaGreatDoor
open Go.ChangeShapes Go.WideShapes Go.ChangeAt Go.RowKit Go.Shelf

theorem drewN2 (w : World) (n m : Nat) : (w.drewN n).drewN m = w.drewN (n + m) := by simp [World.drewN, Nat.add_assoc]

/-- are bytes the same? -/
def eqB (a b : List UInt8) : Bool := decide (a = b)

theorem vb_inj {a b : UInt8} : (vb a = vb b) ↔ a = b := by
  unfold vb
  constructor
  · intro h
    injection h with _ h
    exact UInt8.toNat_inj.1 (by omega)
  · rintro rfl; rfl
theorem take_snoc_eq {a b : List UInt8} {k : Nat} (ha : k < a.length) (hb : k < b.length) (ht : a.take k = b.take k) (he : a[k] = b[k]) : a.take (k + 1) = b.take (k + 1) := by
  rw [List.take_succ_eq_append_getElem ha, List.take_succ_eq_append_getElem hb, ht, he]

set_option maxHeartbeats 1000000 in
theorem equal_u8 (A A' : Option Addr) (c c' : Nat) (l l' : List UInt8) (F F' : Nat → Prop) (w : World) (hl : l.length ≤ 9223372036854775807) (hl' : l'.length ≤ 9223372036854775807) (hr : Reads w F A (l.map vb)) (hr' : Reads w F' A' (l'.map vb)) :
    Calls Tryz.prog 621 #[.slice A l.length c, .slice A' l'.length c'] w fun e w' => e = .returned (.bool (eqB l l')) ∧ ∃ n, w' = w.drewN n := by
  by_cases hlen : l.length = l'.length
  · have hlen' : ((l.length : Int) = (l'.length : Int)) := by omega
    go_enter Tryz.func621, Tryz.ntmps621
    go_wp2
    go_loopw [13] (fun i wr => ∃ k n : Nat, k ≤ l.length ∧ i = .int .i64 k ∧ wr = w.drewN n ∧ l.take k = l'.take k) (fun i _ => l.length - (intOf i).toNat)
    case atStart => exact ⟨0, 0, by omega, rfl, rfl, rfl⟩
    case round =>
      obtain ⟨k, n, hk, rfl, rfl, ht⟩ := hrel
      by_cases hkl : k < l.length
      · obtain ⟨b, off, rfl, _, hbl, hc⟩ := hr.at_ (k := k) (by simpa using hkl)
        obtain ⟨b', off', rfl, _, hbl', hc'⟩ := hr'.at_ (k := k) (by simpa using (by omega : k < l'.length))
        simp only [List.getElem_map, vb] at hc hc'
        by_cases he : l[k] = l'[k]'(by omega)
        · have HT := Lib.hid (take_snoc_eq hkl (by omega) ht he)
          rw [← he] at hc'
          clear ht hr hr' he
          generalize l[k].toNat = x at hc hc'
          have k1 : (k : Int) < (l.length : Int) := by omega
          have k2 : (k : Int) < (l'.length : Int) := by omega
          go_wp2_with fail
          go_quiet (fail)
          go_wp2_with fail
          exact ⟨⟨k + 1, n + nq, by omega, by simp, by first | rfl | exact drewN2 _ _ _, HT.out⟩, by simp [intOf]; omega⟩
        · have hne : ¬ ((l[k].toNat : Int) = ((l'[k]'(by omega)).toNat : Int)) := fun h => he (UInt8.toNat_inj.1 (by omega))
          have HB := Lib.hid (show eqB l l' = false from by
            unfold eqB
            simp
            rintro rfl
            exact he rfl)
          generalize l[k].toNat = x at hc hne
          generalize (l'[k]'(by omega)).toNat = x' at hc' hne
          have k1 : (k : Int) < (l.length : Int) := by omega
          have k2 : (k : Int) < (l'.length : Int) := by omega
          clear ht hr hr' he
          go_wp2_with fail
          go_quiet (fail)
          go_wp2_with fail
          go_ret
          exact ⟨by rw [HB.out]; rfl, n + nq, by first | rfl | exact drewN2 _ _ _⟩
      · obtain rfl : k = l.length := by omega
        have HB := Lib.hid (show eqB l l' = true from by
          unfold eqB
          simp at ht ⊢
          rw [hlen, List.take_length] at ht
          exact ht)
        go_wp2_with fail
        go_ret
        exact ⟨by rw [HB.out]; rfl, _, rfl⟩
  · have hlen' : ¬ ((l.length : Int) = (l'.length : Int)) := by omega
    have HB := Lib.hid (show eqB l l' = false from by
      unfold eqB
      simp
      rintro rfl
      exact hlen rfl)
    go_enter Tryz.func621, Tryz.ntmps621
    go_wp2
    go_ret
    exact ⟨by rw [HB.out]; rfl, 0, rfl⟩
attribute [local go_sem] Oper.semAt_some
/-- all but one block ahead of n₀ lies as it lay -/
def KpB (sb n₀ : Nat) (W W' : World) : Prop := Only (fun k => k = sb ∨ n₀ ≤ k) W W'
theorem kpB_t {sb n₀ : Nat} {A B C : World} (h : KpB sb n₀ A B) (k : KpB sb n₀ B C) : KpB sb n₀ A C := Only.trans h k (fun _ _ h => h)
theorem kpB_b {sb n₀ : Nat} {w : World} (hn : n₀ ≤ w.heap.size) (W : World) (l : Nat) (o o' : Obj) (hl : w.heap.size ≤ l) (_ : W.heap[l]? = some o) (_ : o.isCells = false) (_ : o.isWalk = false) : KpB sb n₀ W (W.putObj l o') :=
  (Only.refl _ W).grown (grownBy_putObj' W l o') (fun k e _ => by cases e; exact .inr (by omega))
def fins (m k : Nat) (h : k ≤ m) : List (Fin m) := (List.range k).attach.map fun x => ⟨x.1, Nat.lt_of_lt_of_le (List.mem_range.1 x.2) h⟩
theorem fins_map (m k : Nat) (h : k ≤ m) : (fins m k h).map (·.1) = List.range k := by
  unfold fins
  rw [List.map_map]
  exact List.attach_map_subtype_val _
theorem fins_succ (m k : Nat) (h : k + 1 ≤ m) : fins m (k + 1) h = fins m k (by omega) ++ [⟨k, by omega⟩] := by
  have : ∀ {a b : List (Fin m)}, a.map (·.1) = b.map (·.1) → a = b := fun {a b} e => by
    exact (List.map_inj_right (fun x y h => Fin.eq_of_val_eq h)).1 e
  apply this
  rw [fins_map, List.map_append, fins_map, List.range_succ]
  rfl
theorem fins_length (m k : Nat) (h : k ≤ m) : (fins m k h).length = k := by simp [fins]
set_option maxRecDepth 100000 in
set_option maxHeartbeats 2000000 in
theorem chunk1_in (n : Nat) (hn : 1 ≤ n) (l Bs Bn sb n₀ b off len cap m : Nat) (hm : len = 4 * m) (hlc : len ≤ cap) (hreach : len ≤ 1000000) (hs : Bs < n₀ ∧ Bs ≠ sb) (hs2 : Bn < n₀ ∧ Bn ≠ sb) (J Jx : List (Fin m) → World → Prop)
    (hY : ∀ pre (x : Fin m) W, J pre W → pre.length < m → YieldAt Fence.wide (n - 1) Tryz.prog l #[.slice (some ⟨b, off + 4 * x.1, none⟩) 4 4] W fun e W' =>
      (e = .returned (.bool true) ∧ J (pre ++ [x]) W' ∧ KpB sb n₀ W W') ∨ (e = .returned (.bool false) ∧ Jx (pre ++ [x]) W'))
    (W : World) (hBs : W.cell? ⟨Bs, 0, none⟩ = some (.slice (some ⟨b, off, none⟩) len cap)) (hBn : W.cell? ⟨Bn, 0, none⟩ = some (.int .i64 4)) (h0 : J [] W) (hJ : AbidesFrom W.heap.size J) :
    CallsIn Fence.wide n Tryz.prog 633 #[.func (.yield l) #[] #[], .pointer (some ⟨Bs, 0, none⟩), .pointer (some ⟨Bn, 0, none⟩)] W fun e W' => (∃ v, e = .returned v) ∧
      ((∃ ys, ys = fins m m (Nat.le_refl _) ∧ J ys W') ∨ (∃ pre, True ∧ Jx pre W')) := by
  have hbs := block_lt_of_cell hBs
  have hbn := block_lt_of_cell hBn
  refine callsIn_of_wp Tryz.func633 rfl trivial ?_ rfl
  simp only [Tryz.ntmps633, List.size_toArray, List.length_cons, List.length_nil, Nat.reduceAdd, Nat.reduceSub, Array.replicate_succ, Array.replicate_zero, List.push_toArray, List.append_toArray, List.nil_append, List.cons_append]
  gi_wp2
  gi_loopw [4] (fun i wr => ∃ (k : Nat) (h : k ≤ m), i = .int .i64 ((4 * k : Nat) : Int) ∧ J (fins m k h) wr ∧ KpB sb n₀ W wr)
    (fun i _ => len - (intOf i).toNat)
  case atStart => exact ⟨0, Nat.zero_le _, rfl, h0, Only.refl _ _⟩
  case round =>
    obtain ⟨k, hk, rfl, hJs, hnx⟩ := hrel
    have hc1 : wr.cell? ⟨Bs, 0, none⟩ = some (.slice (some ⟨b, off, none⟩) len cap) := (Only.cell (p := ⟨Bs, 0, none⟩) hnx hbs (by rintro (e | e); exact hs.2 e; exact absurd hs.1 (by simpa using e))).trans hBs
    have hc2 : wr.cell? ⟨Bn, 0, none⟩ = some (.int .i64 4) := (Only.cell (p := ⟨Bn, 0, none⟩) hnx hbn (by rintro (e | e); exact hs2.2 e; exact absurd hs2.1 (by simpa using e))).trans hBn
    by_cases hlt : k < m
    · have hmo : Tryz.prog.follows Departure.mixedOrders = true := by kernel_rfl
      have hnl : ¬ (((4 * m - 4 * k : Nat)) : Int) < 4 := by omega
      have hkm : (4 * (k : Int)) < 4 * (m : Int) := by omega
      gi_wp2
      gi_quiet (fail)
      obtain ⟨fn, tmps, assign, body, hy, hR⟩ := hY _ (⟨k, hlt⟩ : Fin m) (wr.drewN nq) (hJ _ wr (wr.drewN nq) none hJs ⟨rfl, rfl, rfl, Nat.le_refl _, fun _ _ _ => rfl⟩ (fun r e => by cases e)) (by rw [fins_length]; exact hlt)
      dsimp only at hy
      gi_wp2
      refine hR.mono ?_
      rintro e W3 (⟨rfl, hJ3, hk3⟩ | ⟨rfl, hJx3⟩)
      · have hnx3 : KpB sb n₀ W W3 := kpB_t hnx (Only.of_drewN hk3)
        have hd1 : W3.cell? ⟨Bs, 0, none⟩ = some (.slice (some ⟨b, off, none⟩) (4 * m) cap) := (Only.cell (p := ⟨Bs, 0, none⟩) hnx3 hbs (by rintro (e | e); exact hs.2 e; exact absurd hs.1 (by simpa using e))).trans (by rw [hBs, hm])
        have hd2 : W3.cell? ⟨Bn, 0, none⟩ = some (.int .i64 4) := (Only.cell (p := ⟨Bn, 0, none⟩) hnx3 hbn (by rintro (e | e); exact hs2.2 e; exact absurd hs2.1 (by simpa using e))).trans hBn
        gi_wp2
        go_roundw
        case rel => exact ⟨k + 1, by omega, by simp <;> omega, by rw [fins_succ]; exact hJ3, hnx3⟩
        case measure => simp [intOf]; omega
      · gi_wp2
        refine bodyPost_ret (results_none rfl _ _ _) rfl ?_
        exact ⟨⟨_, rfl⟩, .inr ⟨_, trivial, hJx3⟩⟩
    · obtain rfl : k = m := by omega
      gi_wp2
      go_end0
      exact ⟨⟨_, rfl⟩, .inl ⟨_, rfl, hJs⟩⟩
set_option maxRecDepth 100000 in
set_option maxHeartbeats 1000000 in
/-- at no byte: no round -/
theorem chunk1_nil (n l Bs Bn cap : Nat) (A : Option Addr) (J : List (Fin 0) → World → Prop) (W : World) (hBs : W.cell? ⟨Bs, 0, none⟩ = some (.slice A 0 cap)) (h0 : J [] W) :
    CallsIn Fence.wide n Tryz.prog 633 #[.func (.yield l) #[] #[], .pointer (some ⟨Bs, 0, none⟩), .pointer (some ⟨Bn, 0, none⟩)] W fun e W' => (∃ v, e = .returned v) ∧ J [] W' := by
  refine callsIn_of_wp Tryz.func633 rfl trivial ?_ rfl
  simp only [Tryz.ntmps633, List.size_toArray, List.length_cons, List.length_nil, Nat.reduceAdd, Nat.reduceSub, Array.replicate_succ, Array.replicate_zero, List.push_toArray, List.append_toArray, List.nil_append, List.cons_append]
  gi_wp2
  gi_loopw [4] (fun i wr => i = .int .i64 0 ∧ wr = W) (fun _ _ => 0)
  case atStart => exact ⟨rfl, rfl⟩
  case round =>
    obtain ⟨rfl, rfl⟩ := hrel
    gi_wp2
    go_end0
    exact ⟨⟨_, rfl⟩, h0⟩
set_option maxHeartbeats 1000000 in
theorem chunk_in (n : Nat) (a : Option Addr) (len cap : Nat) (w : World) :
    CallsIn Fence.wide n Tryz.prog 620 #[.slice a len cap, .int .i64 4] w fun e w' => e = .returned (.func (.func 633) #[] #[.pointer (some ⟨w.heap.size, 0, none⟩), .pointer (some ⟨w.heap.size + 1, 0, none⟩)]) ∧ w' = (w.alloc (.cells #[.slice a len cap] 39)).alloc (.cells #[.int .i64 4] 3) := by
  refine callsIn_of_wp Tryz.func620 rfl trivial ?_ rfl
  simp only [Tryz.ntmps620, List.size_toArray, List.length_cons, List.length_nil, Nat.reduceAdd, Nat.reduceSub, Array.replicate_succ, Array.replicate_zero, List.push_toArray, List.append_toArray, List.nil_append, List.cons_append]
  gi_wp2
  go_ret
  exact ⟨rfl, rfl⟩
/-- a row of bytes handed on four by four -/
theorem chunk_stops (n : Nat) (hn : 1 ≤ n) (Bs Bn sb n₀ b off len cap m : Nat) (hm : len = 4 * m) (hlc : len ≤ cap) (hreach : len ≤ 1000000) (hs : Bs < n₀ ∧ Bs ≠ sb) (hs2 : Bn < n₀ ∧ Bn ≠ sb) (w : World)
    (hBs : w.cell? ⟨Bs, 0, none⟩ = some (.slice (some ⟨b, off, none⟩) len cap)) (hBn : w.cell? ⟨Bn, 0, none⟩ = some (.int .i64 4)) :
    SeqStopsK Fence.wide n Tryz.prog 633 #[.pointer (some ⟨Bs, 0, none⟩), .pointer (some ⟨Bn, 0, none⟩)] (fun x : Fin m => #[Value.slice (some ⟨b, off + 4 * x.1, none⟩) 4 4]) (KpB sb n₀) (fun ys => ys = fins m m (Nat.le_refl _)) (fun _ => True) m w := fun l J Jx W hW hJ _ hY h0 =>
  chunk1_in n hn l Bs Bn sb n₀ b off len cap m hm hlc hreach hs hs2 J Jx hY W ((hW.cell (p := ⟨Bs, 0, none⟩) (block_lt_of_cell hBs)).trans hBs) ((hW.cell (p := ⟨Bn, 0, none⟩) (block_lt_of_cell hBn)).trans hBn) h0 hJ
theorem chunk_stops0 (n : Nat) (Bs Bn sb n₀ cap : Nat) (A : Option Addr) (w : World) (hBs : w.cell? ⟨Bs, 0, none⟩ = some (.slice A 0 cap)) :
    SeqStopsK Fence.wide n Tryz.prog 633 #[.pointer (some ⟨Bs, 0, none⟩), .pointer (some ⟨Bn, 0, none⟩)] (fun _ : Fin 0 => #[Value.slice none 4 4]) (KpB sb n₀) (fun ys => ys = []) (fun _ => True) 0 w := fun l J _ W hW _ _ _ h0 =>
  (chunk1_nil n l Bs Bn cap A J W ((hW.cell (p := ⟨Bs, 0, none⟩) (block_lt_of_cell hBs)).trans hBs) h0).mono fun _ _ ⟨he, hj⟩ => ⟨he, .inl ⟨_, rfl, hj⟩⟩
end Go.Proofs.YtojcehhfeleclaaGreatDoor
