/-
  Which ways several paths are told: the walk. Under: what was said stands in memory; the data read as bytes, four by four.
-/
import Derived.Test.YtojcehhfeleclaaGreatDoorTopA
import Derived.RangeFuncFrom
namespace Go.Proofs.YtojcehhfeleclaaGreatDoor
open Go.ChangeShapes Go.WideShapes Go.ChangeAt Go.RowKit Go.Shelf
attribute [local go_sem] Oper.semAt_some

theorem Blk.new1 (w : World) (o : Obj) (t : TypeId) (cs : Array Value) : Blk ((w.alloc o).alloc (.cells cs t)) (w.heap.size + 1) t cs := by
  have := Blk.new (w.alloc o) t cs
  rw [World.size_alloc] at this
  exact this
theorem below_a1 (w : World) (o : Obj) : Below w.heap.size w (w.alloc o) := (Below.refl _ _).alloc (Nat.le_refl _) _
theorem below_a2 (w : World) (o o' : Obj) : Below w.heap.size w ((w.alloc o).alloc o') := (below_a1 w o).alloc (by simp) _
theorem reads_of_blk {w : World} {g : Nat} {t : TypeId} {cs : Array Value} (h : Blk w g t cs) : Reads w (fun k => k = g) (some ⟨g, 0, none⟩) cs.toList :=
  .inr ⟨g, 0, rfl, rfl, h.lt, fun j u hj => by rw [h.cell]; simpa using hj⟩
/-- what four bytes say -/
def stepP (l : List UInt8) (k : Nat) (p : Int) : Int := if (eqB ((l.drop (4 * k)).take 3) [0, 1, 1] && decide (1 ≤ (l.getD (4 * k + 3) 0).toNat)) && decide ((l.getD (4 * k + 3) 0).toNat ≤ 3) then ((l.getD (4 * k + 3) 0).toNat : Int) else p
def pathsN (l : List UInt8) (p : Int) (ks : List Nat) : Int := ks.foldl (fun p k => stepP l k p) p
def pathsL (l : List UInt8) (p : Int) : Int := pathsN l p (List.range (l.length / 4))
theorem pathsN_snoc (l : List UInt8) (p : Int) (ks : List Nat) (k : Nat) : pathsN l p (ks ++ [k]) = stepP l k (pathsN l p ks) := by simp [pathsN]
/-- a block whose fifth cell alone turns -/
structure Fx where
  c : Array Value
  e : TypeId
  fz : Nat × Nat
  hc : 4 < c.size
  hf : ¬(fz.1 ≤ 4 ∧ 4 < fz.2)
def SaidP (X : Fx) (w : World) (sb : Nat) (pv : Int) : Prop := w.heap[sb]? = some (.cells (X.c.setIfInBounds 4 (.int .i64 pv)) X.e X.fz)
section
variable {X : Fx} {w w' : World} {sb : Nat} {pv : Int}
theorem SaidP.lt (h : SaidP X w sb pv) : sb < w.heap.size := by
  rcases Nat.lt_or_ge sb w.heap.size with hlt | hge
  · exact hlt
  · unfold SaidP at h; rw [Array.getElem?_eq_none hge] at h; cases h
theorem SaidP.cell (h : SaidP X w sb pv) : w.cell? ⟨sb, 4, none⟩ = some (.int .i64 pv) := by
  rw [cell_of_row w sb 4 _ _ _ h]
  simp [X.hc]
theorem SaidP.frozen (h : SaidP X w sb pv) : w.frozen? ⟨sb, 4, none⟩ = false := by
  unfold SaidP at h
  have := X.hf
  simp only [World.frozen?, h]
  simpa using this
theorem SaidP.drew (h : SaidP X w sb pv) : SaidP X w.drew sb pv := h
theorem SaidP.drewN (h : SaidP X w sb pv) (n : Nat) : SaidP X (w.drewN n) sb pv := h
theorem SaidP.alloc (h : SaidP X w sb pv) (o : Obj) : SaidP X (w.alloc o) sb pv := (Below.heap_alloc w o sb h.lt).trans h
theorem SaidP.below {B : Nat} (h : SaidP X w sb pv) (hb : Below B w w') (hg : sb < B) : SaidP X w' sb pv := (hb.block sb hg).trans h
theorem SaidP.grown {row : Option Nat} (h : SaidP X w sb pv) (hb : w.grownBy w' row) (hg : some sb ≠ row) : SaidP X w' sb pv := (hb.block sb h.lt hg).trans h
theorem SaidP.set_ (h : SaidP X w sb pv) (q : Int) : SaidP X (w.setCell ⟨sb, 4, none⟩ (.int .i64 q)) sb q := by
  unfold SaidP at h ⊢
  simp [World.setCell, Array.getElem?_modify, h]
end
theorem ownFrom_said {X : Fx} {α : Type} {B sb : Nat} {f : List α → Int} (hB : sb < B) : OwnFrom B (fun (pre : List α) W => SaidP X W sb (f pre)) :=
  fun _ _ _ _ hs hg hr => SaidP.grown hs hg (fun e => by have := (hr _ e.symm).1; omega)
theorem ownFrom_only {α : Type} {B : Nat} {w : World} {S : Nat → Prop} (hS : ∀ k, B ≤ k → S k) : OwnFrom B (fun (_ : List α) W => Only S w W) :=
  fun _ _ _ _ hs hg hr => hs.grown hg (fun k e _ => hS k (hr k e).1)
theorem ko_drewN {W X : World} (h : KeepsOthers W X) (n : Nat) : KeepsOthers W (X.drewN n) := ⟨h.size, h.same⟩
theorem ko_drew {W X : World} (h : KeepsOthers W X) : KeepsOthers W X.drew := ⟨h.size, h.same⟩
theorem ko_set {W X : World} (h : KeepsOthers W X) (a : Addr) (v : Value) : KeepsOthers W (X.setCell a v) := h.trans (KeepsOthers.setCell _ _ _)
set_option maxRecDepth 100000 in
set_option maxHeartbeats 4000000 in
theorem paths_any {w : World} {sb b off cap m : Nat} {X : Fx} {pv0 : Int} {l : List UInt8} (hS : SaidP X w sb pv0) (hm0 : l.length = 4 * m) (hlc : 4 * m ≤ cap) (hreach : 4 * m ≤ 1000000) (hbs : b ≠ sb) (hbl : b < w.heap.size)
    (hr : ∀ j u, (l.map vb)[j]? = some u → w.cell? ⟨b, off + j, none⟩ = some u) :
    Calls Tryz.prog 583 #[.pointer (some ⟨sb, 0, none⟩), .slice (some ⟨b, off, none⟩) (4 * m) cap] w fun e w' => e = .returned (.tuple #[]) ∧ SaidP X w' sb (pathsL l pv0) ∧ Only (· = sb) w w' := by
  have hsl := hS.lt
  have hmo : Tryz.prog.follows Departure.mixedOrders = true := by kernel_rfl
  have hm := Lib.hid hm0
  have HR := Lib.hid hr
  clear hr hm0
  refine (callsIn_wide (n := 5)).1 ?_
  refine callsIn_of_wp_marks Tryz.func583 rfl trivial ?_ rfl
  simp only [Tryz.ntmps583, List.size_toArray, List.length_cons, List.length_nil, Nat.reduceAdd, Nat.reduceSub, Array.replicate_succ, Array.replicate_zero, List.push_toArray, List.append_toArray, List.nil_append, List.cons_append]
  gi_wp2_with (refine ⟨trivial, ?_⟩; gi_at_call 620; refine (chunk_in _ _ _ _ _).mono ?_; rintro e w' ⟨rfl, rfl⟩)
  have hP0 := Blk.new w 616 #[.pointer (some ⟨sb, 0, none⟩)]
  have hC0 := Blk.new1 w (.cells #[.pointer (some ⟨sb, 0, none⟩)] 616) 39 #[.slice (some ⟨b, off, none⟩) (4 * m) cap]
  obtain ⟨w1, hw1⟩ : ∃ w1, (w.alloc (.cells #[.pointer (some ⟨sb, 0, none⟩)] 616)).alloc (.cells #[.slice (some ⟨b, off, none⟩) (4 * m) cap] 39) = w1 := ⟨_, rfl⟩
  have hs1 : w1.heap.size = w.heap.size + 2 := by rw [← hw1]; simp
  have hb1 : Below w.heap.size w w1 := by rw [← hw1]; exact below_a2 w _ _
  have hP1 : Blk w1 w.heap.size 616 #[.pointer (some ⟨sb, 0, none⟩)] := by rw [← hw1]; exact hP0.alloc _
  rw [hw1] at hC0 ⊢
  have hD0 := Blk.new w1 3 #[.int .i64 4]
  obtain ⟨w2, hw2⟩ : ∃ w2, w1.alloc (.cells #[.int .i64 4] 3) = w2 := ⟨_, rfl⟩
  have hs2 : w2.heap.size = w.heap.size + 3 := by rw [← hw2]; simp; omega
  have hb2 : Below w.heap.size w w2 := by rw [← hw2]; exact hb1.trans ((below_a1 w1 _).mono (by omega))
  have hP2 : Blk w2 w.heap.size 616 #[.pointer (some ⟨sb, 0, none⟩)] := by rw [← hw2]; exact hP1.alloc _
  have hC2 : Blk w2 (w.heap.size + 1) 39 #[.slice (some ⟨b, off, none⟩) (4 * m) cap] := by rw [← hw2]; exact hC0.alloc _
  have hD2 : Blk w2 (w.heap.size + 1 + 1) 3 #[.int .i64 4] := by rw [hw2, hs1] at hD0; exact hD0
  rw [hw2]
  clear hP0 hP1 hC0 hD0 hw1 hw2 hs1 hb1
  refine wpIn_rangeFunc_ownF rfl (by omega) (gf := 633) (lb := #[.pointer (some ⟨w.heap.size + 1, 0, none⟩), .pointer (some ⟨w.heap.size + 1 + 1, 0, none⟩)]) rfl trivial (enters_of Tryz.func633 (by kernel_rfl) rfl)
    (chunk_stops 4 (by omega) (w.heap.size + 1) (w.heap.size + 1 + 1) sb (w.heap.size + 3) b off (4 * m) cap m rfl hlc hreach (by omega) (by omega) w2 (by rw [hC2.cell 0]; rfl) (by rw [hD2.cell 0]; rfl)) kpB_t (kpB_b (by omega)) (Below.refl _ _) (fun _ => rfl)
    (fun pre W => SaidP X W sb (pathsN l pv0 (pre.map (·.1))) ∧ Only (fun k => k = sb ∨ w.heap.size + 3 ≤ k) w2 W)
    (fun _ _ _ => False)
    (OwnFrom.and (ownFrom_said (by omega)) (ownFrom_only (fun k hk => .inr (by omega))))
    (fun _ _ _ _ _ hs _ _ => hs)
    ⟨SaidP.below hS hb2 hsl, Only.refl _ _⟩
    (fun x => { tmps := #[.pointer (some ⟨sb, 0, none⟩), .slice (some ⟨b, off, none⟩) (4 * m) cap, .pointer (some ⟨w.heap.size, 0, none⟩), undef, .slice (some ⟨b, off + 4 * x.1, none⟩) 4 4, .slice (some ⟨b, off, none⟩) (4 * m) cap, .func (.func 633) #[] #[.pointer (some ⟨w.heap.size + 1, 0, none⟩), .pointer (some ⟨w.heap.size + 1 + 1, 0, none⟩)], .slice (some ⟨b, off + 4 * x.1, none⟩) 4 4, undef, undef, undef, undef, undef, undef, undef, undef, undef, undef, undef, undef, undef, undef, undef, undef, undef, undef, undef, undef, undef, undef, undef, undef], defers := [] }) ?assign ?body ?done ?stop
  case assign =>
    intro l x W K hK
    gi_wp2
    exact hK
  case body =>
    rintro lp pre x W ⟨hc, hB⟩ _
    have hx := x.2
    have HM := hm.out
    have hBW : ∀ {k : Nat}, k < w2.heap.size → k ≠ sb → k < w.heap.size + 3 → W.heap[k]? = w2.heap[k]? := fun h1 h2 h3 => hB.block _ h1 (by rintro (e | e); exact h2 e; omega)
    have hPW : Blk W w.heap.size 616 #[.pointer (some ⟨sb, 0, none⟩)] := (hBW (by omega) (by omega) (by omega)).trans hP2
    have hrd : ∀ j u, (l.map vb)[j]? = some u → W.cell? ⟨b, off + j, none⟩ = some u := fun j u hj => by
      have h0 := HR.out j u hj
      have h1 : w2.cell? ⟨b, off + j, none⟩ = some u := (hb2.cell (p := ⟨b, off + j, none⟩) hbl).trans h0
      have h2 : W.heap[b]? = w2.heap[b]? := hBW (by omega) hbs (by omega)
      exact (World.cell?_of_block (w := w2) h2).trans h1
    have hd3 : (W.alloc (.cells #[.int .u8 0, .int .u8 1, .int .u8 1] 5)).cell? ⟨b, off + 4 * x.1 + 3, none⟩ = some (.int .u8 (l.getD (4 * x.1 + 3) 0).toNat) := by
      rw [Nat.add_assoc]
      refine (Below.cell (below_a1 W _) (p := ⟨b, off + (4 * x.1 + 3), none⟩) (by have := hB.size; show b < W.heap.size; omega)).trans (hrd _ _ ?_)
      rw [List.getElem?_map, List.getD_eq_getElem?_getD, List.getElem?_eq_getElem (by omega)]
      rfl
    have hR3 : Reads W (fun _ => True) (some ⟨b, off + 4 * x.1, none⟩) (((l.drop (4 * x.1)).take 3).map vb) := by
      refine .inr ⟨b, off + 4 * x.1, rfl, trivial, by have := hB.size; omega, fun j u hj => ?_⟩
      rw [Nat.add_assoc]
      refine hrd _ _ ?_
      rw [List.getElem?_map, List.getElem?_take] at hj
      rw [List.getElem?_map]
      split at hj
      · rw [List.getElem?_drop] at hj
        exact hj
      · cases hj
    have hl3 : ((l.drop (4 * x.1)).take 3).length = 3 := by rw [List.length_take, List.length_drop]; omega
    have HEQ := Lib.hid (equal_u8 (some ⟨b, off + 4 * x.1, none⟩) (some ⟨W.heap.size, 0, none⟩) 4 3 ((l.drop (4 * x.1)).take 3) [0, 1, 1] _ _ (W.alloc (.cells #[.int .u8 0, .int .u8 1, .int .u8 1] 5)) (by omega) (by simp) (hR3.alloc _) ((reads_of_blk (Blk.new W 5 #[.int .u8 0, .int .u8 1, .int .u8 1])).mono (G := fun _ => True) (fun _ _ _ => trivial)))
    rw [hl3] at HEQ
    have HST := Lib.hid (pathsN_snoc l pv0 (pre.map (·.1)) x.1)
    unfold stepP at HST
    have hsW : sb < W.heap.size := hc.lt
    have HC := Lib.hid hc
    clear hR3 hl3 hrd hBW hc HM
    generalize eqB ((l.drop (4 * x.1)).take 3) [0, 1, 1] = q at *
    generalize (l.getD (4 * x.1 + 3) 0).toNat = d at *
    generalize pathsN l pv0 (pre.map (·.1)) = pv at *
    have hoa : Below W.heap.size W (W.alloc (.cells #[.int .u8 0, .int .u8 1, .int .u8 1] 5)) := below_a1 W _
    have hPA := hPW.below hoa hPW.lt
    have HCA := SaidP.below HC.out hoa hsW
    obtain ⟨c0, -⟩ : (W.alloc (.cells #[.int .u8 0, .int .u8 1, .int .u8 1] 5)).cell? ⟨w.heap.size, 0, none⟩ = some (.pointer (some ⟨sb, 0, none⟩)) ∧ True := ⟨by rw [hPA.cell 0]; rfl, trivial⟩
    have hcs : (W.alloc (.cells #[.int .u8 0, .int .u8 1, .int .u8 1] 5)).cell? ⟨sb, 4, none⟩ = some (.int .i64 pv) := HCA.cell
    have hfs : (W.alloc (.cells #[.int .u8 0, .int .u8 1, .int .u8 1] 5)).frozen? ⟨sb, 4, none⟩ = false := HCA.frozen
    have HCA := Lib.hid HCA
    clear hPA hPW
    by_cases hy : q = true ∧ 1 ≤ d ∧ d ≤ 3
    · obtain ⟨rfl, h1, h3⟩ := hy
      have h1' : (1 : Int) ≤ d := by omega
      have h3' : (d : Int) ≤ 3 := by omega
      gi_wp2_with (refine ⟨trivial, ?_⟩; gi_at_call 621; refine (CallsIn.inRound lp (callsIn_wide.2 HEQ.out)).mono ?_; rintro e w' ⟨rfl, nn, rfl⟩)
      have e1 : IntKind.i64.wrap (d : Int) = (d : Int) := IntWalk.i64_in _ (by omega)
      gi_region_with_o (fail)
      all_goals gi_wp2
      all_goals (try go_bits)
      all_goals
        refine ⟨?_, ?_, ?_, ?_⟩
        · repeat (first | exact KeepsOthers.alloc W _ | refine ko_set ?_ _ _ | refine ko_drewN ?_ _ | refine ko_drew ?_)
        · refine Only.setCell ?_ (fun _ => .inl rfl) _
          repeat (first | exact (Only.refl _ W).alloc _ | refine Only.drewN ?_ _ | refine Only.drew ?_)
        · rw [List.map_append, List.map_cons, List.map_nil, HST.out, if_pos (by simp; omega)]
          exact SaidP.set_ (by repeat (first | exact HCA.out | refine SaidP.drewN ?_ _ | refine SaidP.drew ?_)) _
        · refine Only.setCell ?_ (fun _ => .inl rfl) _
          repeat (first | exact hB.alloc _ | refine Only.drewN ?_ _ | refine Only.drew ?_)
    · have HST2 := Lib.hid (show pathsN l pv0 ((pre ++ [x]).map (·.1)) = pv from by
        rw [List.map_append, List.map_cons, List.map_nil, HST.out, if_neg]
        intro h
        simp at h
        exact hy ⟨h.1.1, h.1.2, h.2⟩)
      have hd : q = false ∨ (q = true ∧ ¬ (1 : Int) ≤ d) ∨ (q = true ∧ (1 : Int) ≤ d ∧ ¬ (d : Int) ≤ 3) := by
        cases q <;> simp at hy ⊢
        omega
      clear HST hy
      rcases hd with rfl | ⟨rfl, h1⟩ | ⟨rfl, h1, h3⟩
      all_goals
        gi_wp2_with (refine ⟨trivial, ?_⟩; gi_at_call 621; refine (CallsIn.inRound lp (callsIn_wide.2 HEQ.out)).mono ?_; rintro e w' ⟨rfl, nn, rfl⟩)
        refine ⟨?_, ?_, ?_, ?_⟩
        · repeat (first | exact KeepsOthers.alloc W _ | refine ko_drewN ?_ _ | refine ko_drew ?_)
        · repeat (first | exact (Only.refl _ W).alloc _ | refine Only.drewN ?_ _ | refine Only.drew ?_)
        · rw [HST2.out]
          exact (by repeat (first | exact HCA.out | refine SaidP.drewN ?_ _ | refine SaidP.drew ?_))
        · repeat (first | exact hB.alloc _ | refine Only.drewN ?_ _ | refine Only.drew ?_)
  case done =>
    rintro D ys W hD rfl ⟨hc, hB⟩ hK
    gi_wp2
    refine ⟨by simp, .inl ⟨_, _, rfl, run_takeDeferred hK, ?_⟩⟩
    have hf : pathsN l pv0 ((fins m m (Nat.le_refl _)).map (·.1)) = pathsL l pv0 := by
      rw [fins_map, pathsL, hm.out, Nat.mul_div_cancel_left m (by omega)]
    rw [hf] at hc
    have hg := grownBy_putObj' W D (.deferred none)
    have hcl := SaidP.lt hc
    refine ⟨_, results_none rfl _ _ _, rfl, SaidP.grown hc hg (fun e => by cases e; omega), ?_⟩
    exact ((Only.of_below (S := (· = sb)) hb2).trans (hB.grown hg (fun k e _ => by cases e; exact .inr (by omega))) (fun i hi h => by rcases h with h | h; exact h; omega))
  case stop =>
    rintro D c pre W _ _ h _
    exact h.elim
end Go.Proofs.YtojcehhfeleclaaGreatDoor
