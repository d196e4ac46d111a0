/-
  Loads in memory, as the program keeps them; new ones, whether they were made, setting one. No condition but that they stand in memory.
-/
import Derived.Test.YtneablcgcdmgpaaLoadP
import Derived.Test.YtneablcgcdmgpaaBytes
import Derived.Maps.OwnOps
import Derived.Maps.OwnSet
import Derived.LoopTactic
import Derived.WalkSmall
namespace Go.Proofs.Ytneablcgcdmgpaa
open Go.ChangeShapes Go.WideShapes Go.ChangeAt Go.RowKit Go.Maps

theorem law3 : Keyed Try.prog 3 := int_keyed Try.underlying3
theorem zero3 (w : World) : (zeroValue 3).run Try.prog w = .ok (.int .i64 0) w := by kernel_rfl
theorem key_ne {x y : Int} (h : x ≠ y) : (Lit.int .i64 x) ≠ (Lit.int .i64 y) := fun e => h (by injection e)
theorem below_a1 (w : World) (o : Obj) : Below w.heap.size w (w.alloc o) := (Below.refl _ _).alloc (Nat.le_refl _) _
theorem below_a2 (w : World) (o o' : Obj) : Below w.heap.size w ((w.alloc o).alloc o') := (below_a1 w o).alloc (by simp) _
/-- a map's rows -/
structure MapIs (D : DataW Unit) (s : LS) : Prop where
  has : ∀ x, Maps.has D (.int .i64 x) = decide (x ∈ keysL s)
  val : ∀ x, D.atKey (.int .i64 x) (.lit (.int .i64 0)) = .lit (.int .i64 (getZ s x))
  len : Maps.size D = s.length
theorem MapIs.nil : MapIs (.map []) [] := ⟨fun x => by simp [Maps.has, keysL], fun x => by simp [DataW.atKey, getZ], rfl⟩
theorem MapIs.put {D : DataW Unit} {s : LS} (h : MapIs D s) (ht : Maps.Tidy D) (hr : Ris s) (hp : Pos s) (x n : Int) (h0 : 0 < n) (hn : n ≤ capN) : MapIs (D.put (.int .i64 x) (.lit (.int .i64 n))) (setZ s x n) := by
  refine ⟨fun y => ?_, fun y => ?_, ?_⟩
  · rw [Bool.eq_iff_iff, decide_eq_true_iff, mem_set hr hp (by omega) hn]
    by_cases e : y = x
    · subst e
      rw [Maps.has_put_same ht.isMap (show WideAt.IsKeyLit (Lit.int .i64 y) from trivial)]
      simp
      omega
    · rw [Maps.has_put_other (key_ne e), h.has y, if_neg e]
      simp
  · rw [getZ_set hr (by omega)]
    by_cases e : y = x
    · subst e
      rw [Maps.atKey_put_same ht.isMap (show WideAt.IsKeyLit (Lit.int .i64 y) from trivial), if_pos rfl]
    · rw [Maps.atKey_put_other (key_ne e), h.val y, if_neg e]
  · have h1 := len_setZ hr x n
    rw [if_pos h0] at h1
    rw [Maps.size_put ht, h.has x, h.len]
    by_cases e : x ∈ keysL s
    · rw [decide_eq_true e, if_pos rfl]
      rw [if_pos e] at h1
      omega
    · rw [decide_eq_false e]
      rw [if_neg e] at h1
      simp
      omega
theorem MapIs.del {D : DataW Unit} {s : LS} (h : MapIs D s) (ht : Maps.Tidy D) (hr : Ris s) (hp : Pos s) (x : Int) : MapIs (D.del (.int .i64 x)) (setZ s x 0) := by
  refine ⟨fun y => ?_, fun y => ?_, ?_⟩
  · rw [Bool.eq_iff_iff, decide_eq_true_iff, mem_set hr hp (Int.le_refl _) (by simp [capN])]
    by_cases e : y = x
    · subst e
      rw [Maps.has_del_same]
      simp
    · rw [Maps.has_del_other (key_ne e), h.has y, if_neg e]
      simp
  · rw [getZ_set hr (Int.le_refl _)]
    by_cases e : y = x
    · subst e
      rw [Maps.atKey_del_same, if_pos rfl]
    · rw [Maps.atKey_del_other (key_ne e), h.val y, if_neg e]
  · have h1 := len_setZ hr x 0
    have h2 := Maps.size_del (k := .int .i64 x) ht
    rw [h.has x, h.len] at h2
    simp only [Int.lt_irrefl, if_false, Nat.add_zero] at h1
    by_cases e : x ∈ keysL s
    · rw [decide_eq_true e, if_pos rfl] at h2
      rw [if_pos e] at h1
      omega
    · rw [decide_eq_false e] at h2
      rw [if_neg e] at h1
      simp at h2
      omega
theorem ownsMap_mono {w : World} {P : Program} {k : TypeId} {R : Value → Option (DataW Unit × List MemPlace)} {b n n' : Nat} {D : DataW Unit} (h : w.ownsMap P k R b n D) (hn : n ≤ n') : w.ownsMap P k R b n' D := by
  obtain ⟨es, clock, he, F, hs, hD⟩ := h
  exact ⟨es, clock, he, F, Nat.le_trans hs hn, hD⟩
theorem ownsMap_only {w w' : World} {P : Program} {k : TypeId} {R : Value → Option (DataW Unit × List MemPlace)} {b n : Nat} {D : DataW Unit} {S : Nat → Prop} (h : w.ownsMap P k R b n D) (ho : Only S w w') (hS : ¬ S b) : w'.ownsMap P k R b n D := by
  have hl := h.lt
  obtain ⟨es, clock, he, F, hs, hD⟩ := h
  exact ⟨es, clock, (ho.block b hl hS).trans he, F, hs, hD⟩

/-- loads as they stand in memory -/
structure LoadsAt (w : World) (g b m : Nat) (x : LD) : Prop where
  blk : Blk w g 67 #[.map (some b), .bool x.o]
  map : ∃ D : DataW Unit, w.ownsMap Try.prog 3 (plainElem Try.prog 3) b m D ∧ MapIs D x.s
  ne : ¬ g = b
theorem LoadsAt.only {w w' : World} {g b m : Nat} {x : LD} {S : Nat → Prop} (h : LoadsAt w g b m x) (ho : Only S w w') (hg : ¬ S g) (hb : ¬ S b) : LoadsAt w' g b m x := by
  obtain ⟨D, h1, h2⟩ := h.map
  exact ⟨h.blk.only ho hg, ⟨D, ownsMap_only h1 ho hb, h2⟩, h.ne⟩
theorem LoadsAt.below {w w' : World} {g b m : Nat} {x : LD} (h : LoadsAt w g b m x) (hb : Below w.heap.size w w') : LoadsAt w' g b m x := by
  obtain ⟨D, h1, h2⟩ := h.map
  have := h1.lt
  obtain ⟨es, clock, he, F, hs, hD⟩ := h1
  exact ⟨h.blk.below hb h.blk.lt, ⟨D, ⟨es, clock, (hb.block b this).trans he, F, hs, hD⟩, h2⟩, h.ne⟩

set_option maxRecDepth 10000 in
theorem new_any (w : World) : Calls Try.prog 8 #[] w fun e w' => ∃ g b, e = .returned (.pointer (some ⟨g, 0, none⟩)) ∧ LoadsAt w' g b 0 ⟨[], false⟩ ∧ Below w.heap.size w w' ∧ w.heap.size ≤ g ∧ w.heap.size ≤ b := by
  have hmm := @run_makeMap Try.prog
  go_enter Try.func8, Try.ntmps8
  go_wp2_with fail
  go_ret
  have hB := Blk.new (w.alloc (.map #[] 0)) 67 #[.map (some w.heap.size), .bool false]
  rw [World.size_alloc] at hB
  exact ⟨w.heap.size + 1, w.heap.size, rfl, ⟨hB, ⟨.map [], ownsMap_at rfl _, MapIs.nil⟩, by omega⟩, below_a2 _ _ _, by omega, Nat.le_refl _⟩
theorem map_made (b : Nat) (w : World) : Sem.run Try.prog (binOp .neq 65 (.map (some b)) (.map none)) w = .ok (.bool true) w := by kernel_rfl
set_option maxRecDepth 10000 in
theorem made_any {w : World} {g b m : Nat} {x : LD} (h : LoadsAt w g b m x) : Calls Try.prog 33 #[.pointer (some ⟨g, 0, none⟩)] w fun e w' => e = .returned (.bool true) ∧ w = w' := by
  have hc0 := h.blk.cell 0
  simp at hc0
  clear h
  have hmm := map_made b
  go_enter Try.func33, Try.ntmps33
  go_wp2_with fail
  go_ret
  exact ⟨rfl, rfl⟩
set_option maxRecDepth 10000 in
theorem made_nil (w : World) : Calls Try.prog 33 #[.pointer none] w fun e w' => e = .returned (.bool false) ∧ w = w' := by
  go_enter Try.func33, Try.ntmps33
  go_wp2_with fail
  go_ret
  exact ⟨rfl, rfl⟩
theorem map_only {w w1 : World} {b : Nat} {S : Nat → Prop} (h : w.mapTurned w1 b) (hb : S b) : Only S w w1 := (Only.refl S w).grown h.grown (fun k e _ => by cases e; exact hb)
set_option maxRecDepth 10000 in
theorem set_zero {w : World} {g b m : Nat} {x : LD} (h : LoadsAt w g b m x) (hr : Ris x.s) (hp : Pos x.s) (i : Int) (hi : (Lit.int .i64 i).wf = true) :
    Calls Try.prog 38 #[.pointer (some ⟨g, 0, none⟩), .int .i64 i, .int .i64 0] w fun e w' => e = .returned (.tuple #[]) ∧ LoadsAt w' g b m ⟨setZ x.s i 0, x.o⟩ ∧ Only (fun k => k = g ∨ k = b) w w' := by
  obtain ⟨D, h1, h2⟩ := h.map
  have hc0 := h.blk.cell 0
  simp at hc0
  have HB := Lib.hid h
  clear h
  have HD := Lib.hid (h2.del (h1.tidy law3) hr hp i)
  clear h2
  go_enter Try.func38, Try.ntmps38
  go_wp2_with (at_delete; refine wpList_delete_own _ rfl _ _ 65 3 rfl 3 law3 Try.underlying65 _ b m D rfl h1 _ _ rfl (keyOf_int_mk Try.underlying3 hi) ?_; intro w1 hown1 hturn1)
  have ho : Only (fun k => k = g ∨ k = b) w w1 := map_only hturn1 (.inr rfl)
  refine bodyPost_ret (results_none rfl _ _ _) rfl ?_
  exact ⟨rfl, ⟨HB.out.blk.grown hturn1.grown (fun e => HB.out.ne (by injection e)), ⟨_, hown1, HD.out⟩, HB.out.ne⟩, ho⟩
theorem ret_b {a b : Bool} (h : a = b) : Ending.returned (.bool a) = .returned (.bool b) := by rw [h]
set_option maxRecDepth 10000 in
set_option maxHeartbeats 1000000 in
theorem set_some {w : World} {g b m : Nat} {x : LD} (h : LoadsAt w g b m x) (hr : Ris x.s) (hp : Pos x.s) (i n : Int) (hi : (Lit.int .i64 i).wf = true) (hn0 : 0 < n) (hn : n ≤ 9007199254740991) (hm : m < 1000000) :
    Calls Try.prog 38 #[.pointer (some ⟨g, 0, none⟩), .int .i64 i, .int .i64 n] w fun e w' => e = .returned (.tuple #[]) ∧ LoadsAt w' g b (m + 1) ⟨setZ x.s i n, x.o || isCap n⟩ ∧ Only (fun k => k = g ∨ k = b) w w' := by
  obtain ⟨D, h1, h2⟩ := h.map
  have hc0 := h.blk.cell 0
  simp at hc0
  have HB := Lib.hid h
  clear h
  have HD := Lib.hid (h2.put (h1.tidy law3) hr hp i n hn0 hn)
  clear h2
  have hz : (n == 0) = false := by simp; omega
  have hz2 : ¬ n = 0 := by omega
  have hwf : (Lit.int .i64 n).wf = true := by
    simp [Lit.wf, IntKind.min, IntKind.max, IntKind.signed, IntKind.bits]
    omega
  obtain ⟨s, o⟩ := x
  simp only at *
  have HK := Lib.hid fun (w1 : World) (ht : w.mapTurned w1 b) => (show w1.cell? ⟨g, 1, none⟩ = some (.bool o) ∧ w1.frozen? ⟨g, 1, none⟩ = false from by
    have hB1 := HB.out.blk.grown ht.grown (fun e => HB.out.ne (by injection e))
    exact ⟨hB1.cell 1, hB1.frozen 1⟩)
  have HF := Lib.hid fun (w1 : World) (ht : w.mapTurned w1 b) (q : Bool) (ho1 : w1.ownsMap Try.prog 3 (plainElem Try.prog 3) b (m + 1) (D.put (.int .i64 i) (.lit (.int .i64 n)))) (hq : q = (o || isCap n)) =>
    (show LoadsAt (w1.setCell ⟨g, 1, none⟩ (.bool q)) g b (m + 1) ⟨setZ s i n, o || isCap n⟩ ∧ Only (fun k => k = g ∨ k = b) w (w1.setCell ⟨g, 1, none⟩ (.bool q)) from by
      subst hq
      have hB1 := HB.out.blk.grown ht.grown (fun e => HB.out.ne (by injection e))
      have hB2 := hB1.set_ 1 (.bool (o || isCap n))
      have ho : Only (fun k => k = g ∨ k = b) w w1 := map_only ht (.inr rfl)
      have ho2 : Only (fun k => k = g) w1 (w1.setCell ⟨g, 1, none⟩ (.bool (o || isCap n))) := (Only.refl (fun k => k = g) w1).setCell (p := ⟨g, 1, none⟩) (fun _ => rfl) _
      exact ⟨⟨hB2, ⟨_, ownsMap_only ho1 ho2 (fun e => HB.out.ne e.symm), HD.out⟩, HB.out.ne⟩, ho.setCell (fun _ => .inl rfl) _⟩)
  cases o with
  | true =>
    go_enter Try.func38, Try.ntmps38
    go_wp2_with (at_mapUpdate; refine wpList_mapUpdate_in _ rfl _ _ _ 65 rfl 3 3 law3 Try.underlying65 _ b m D rfl h1 (by unfold maxLen; omega) _ _ _ rfl rfl (keyOf_int_mk Try.underlying3 hi) _ [] (plainElem_int Try.underlying3 hwf) ?_; intro w1 hown1 hturn1; obtain ⟨q1, q2⟩ := HK.out w1 hturn1)
    refine bodyPost_end (results_none rfl _ _ _) rfl ?_
    exact ⟨rfl, HF.out w1 hturn1 _ hown1 (by simp)⟩
  | false =>
    by_cases hc : n = 9007199254740991
    · subst hc
      go_enter Try.func38, Try.ntmps38
      go_wp2_with (at_mapUpdate; refine wpList_mapUpdate_in _ rfl _ _ _ 65 rfl 3 3 law3 Try.underlying65 _ b m D rfl h1 (by unfold maxLen; omega) _ _ _ rfl rfl (keyOf_int_mk Try.underlying3 hi) _ [] (plainElem_int Try.underlying3 hwf) ?_; intro w1 hown1 hturn1; obtain ⟨q1, q2⟩ := HK.out w1 hturn1)
      refine bodyPost_end (results_none rfl _ _ _) rfl ?_
      exact ⟨rfl, HF.out w1 hturn1 _ hown1 (by simp [isCap, capN])⟩
    · have hc2 : (n == 9007199254740991) = false := by simpa using hc
      go_enter Try.func38, Try.ntmps38
      go_wp2_with (at_mapUpdate; refine wpList_mapUpdate_in _ rfl _ _ _ 65 rfl 3 3 law3 Try.underlying65 _ b m D rfl h1 (by unfold maxLen; omega) _ _ _ rfl rfl (keyOf_int_mk Try.underlying3 hi) _ [] (plainElem_int Try.underlying3 hwf) ?_; intro w1 hown1 hturn1; obtain ⟨q1, q2⟩ := HK.out w1 hturn1)
      refine bodyPost_end (results_none rfl _ _ _) rfl ?_
      exact ⟨rfl, HF.out w1 hturn1 _ hown1 (by simp [isCap, capN, hc])⟩
theorem set_any {w : World} {g b m : Nat} {x : LD} (h : LoadsAt w g b m x) (hr : Ris x.s) (hp : Pos x.s) (i n : Int) (hi : (Lit.int .i64 i).wf = true) (hn0 : 0 ≤ n) (hn : n ≤ 9007199254740991) (hm : m < 1000000) :
    Calls Try.prog 38 #[.pointer (some ⟨g, 0, none⟩), .int .i64 i, .int .i64 n] w fun e w' => e = .returned (.tuple #[]) ∧ LoadsAt w' g b (m + 1) ⟨setZ x.s i n, x.o || isCap n⟩ ∧ Only (fun k => k = g ∨ k = b) w w' := by
  by_cases h0 : n = 0
  · subst h0
    refine (set_zero h hr hp i hi).mono fun e w' ⟨h1, h2, h3⟩ => ⟨h1, ?_, h3⟩
    have : (x.o || isCap 0) = x.o := by simp [isCap, capN]
    rw [this]
    obtain ⟨D, h4, h5⟩ := h2.map
    exact ⟨h2.blk, ⟨D, ownsMap_mono h4 (Nat.le_succ _), h5⟩, h2.ne⟩
  · exact set_some h hr hp i n hi (by omega) hn hm
end Go.Proofs.Ytneablcgcdmgpaa
