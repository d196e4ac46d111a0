/-
  Loads: nil ones; what a want takes; the loads of wants. Under: what is asked of stands in memory.
-/
import Derived.Test.YtneablcgcdmgpaaLoadC
import Derived.Deep.MidRow
namespace Go.Proofs.Ytneablcgcdmgpaa
open Go.ChangeShapes Go.WideShapes Go.ChangeAt Go.RowKit Go.Maps

/-! ### values -/
/-- an option: its cells; its interface -/
structure OV where
  cs : Array Value
  f : Int
structure OV.ok (o : OV) : Prop where
  size : o.cs.size = 11
  face : o.cs[10]? = some (.int .i64 o.f)
  wf : (Lit.int .i64 o.f).wf = true
  one : o.cs.all (·.oneCell') = true
/-- a want: its cells; how much; its first choice's interface; its detours -/
structure WV where
  cs : Array Value
  n : Int
  f : Int
  D : Option Addr
  dc : Nat
  ds : List OV
structure WV.ok (v : WV) : Prop where
  size : v.cs.size = 16
  num : v.cs[2]? = some (.int .i64 v.n)
  face : v.cs[13]? = some (.int .i64 v.f)
  dets : v.cs[14]? = some (.slice v.D v.ds.length v.dc)
  wf : (Lit.int .i64 v.f).wf = true
  one : v.cs.all (·.oneCell') = true
  all : ∀ o ∈ v.ds, o.ok
  len : v.ds.length ≤ 9223372036854775807
def optCells (ds : List OV) : List Value := ds.flatMap fun o => o.cs.toList
def wantCells (ws : List WV) : List Value := ws.flatMap fun v => v.cs.toList

theorem flat_len {Y : Type} (f : Y → List Value) (sz : Nat) : ∀ (ys : List Y), (∀ y ∈ ys, (f y).length = sz) → (ys.flatMap f).length = ys.length * sz
  | [], _ => by simp
  | y :: ys, h => by
    rw [List.flatMap_cons, List.length_append, h y (by simp), flat_len f sz ys (fun y hy => h y (by simp [hy])), List.length_cons, Nat.succ_mul]
    omega
theorem flat_get {Y : Type} (f : Y → List Value) (sz : Nat) : ∀ (ys : List Y), (∀ y ∈ ys, (f y).length = sz) → ∀ (k : Nat) (hk : k < ys.length) (j : Nat), j < sz → (ys.flatMap f)[k * sz + j]? = (f ys[k])[j]?
  | [], _, k, hk, _, _ => by simp at hk
  | y :: ys, h, 0, hk, j, hj => by
    rw [List.flatMap_cons, List.getElem?_append_left (by rw [h y (by simp)]; omega)]
    simp
  | y :: ys, h, k + 1, hk, j, hj => by
    have hl := h y (by simp)
    rw [List.flatMap_cons, List.getElem?_append_right (by rw [hl, Nat.succ_mul]; omega), hl]
    have e : (k + 1) * sz + j - sz = k * sz + j := by rw [Nat.succ_mul]; omega
    rw [e, flat_get f sz ys (fun y hy => h y (by simp [hy])) k (by simpa using hk) j hj]
    rfl
theorem Reads.rangeAt {Y : Type} {w : World} {F : Nat → Prop} {A : Option Addr} {f : Y → List Value} {sz : Nat} {ys : List Y} (hr : Reads w F A (ys.flatMap f)) (hs : 0 < sz) (hf : ∀ y ∈ ys, (f y).length = sz) {k : Nat} (hk : k < ys.length) :
    ∃ b off, A = some ⟨b, off, none⟩ ∧ F b ∧ b < w.heap.size ∧ w.rangeAt b (off + k * sz) (f ys[k]) := by
  rcases hr with h | ⟨b, off, e, hF, hl, hc⟩
  · have := flat_len f sz ys hf
    rw [h] at this
    have h1 : ys.length * sz = 0 := by simpa using this.symm
    rcases Nat.mul_eq_zero.1 h1 with h | h <;> omega
  · refine ⟨b, off, e, hF, hl, fun j v hj => ?_⟩
    have hjs : j < sz := by
      have := (List.getElem?_eq_some_iff.1 hj).1
      rw [hf _ (List.getElem_mem hk)] at this
      exact this
    rw [Nat.add_assoc]
    exact hc _ _ (by rw [flat_get f sz ys hf k hk j hjs]; exact hj)
theorem optsLen {ds : List OV} (h : ∀ o ∈ ds, o.ok) : ∀ o ∈ ds, (OV.cs o).toList.length = 11 := fun o ho => by simpa using (h o ho).size
theorem wantsLen {ws : List WV} (h : ∀ v ∈ ws, v.ok) : ∀ v ∈ ws, (WV.cs v).toList.length = 16 := fun v hv => by simpa using (h v hv).size


theorem cells16 {cs : Array Value} (h : cs.size = 16) : ∃ c0 c1 c2 c3 c4 c5 c6 c7 c8 c9 c10 c11 c12 c13 c14 c15, cs = #[c0, c1, c2, c3, c4, c5, c6, c7, c8, c9, c10, c11, c12, c13, c14, c15] := by
  obtain ⟨l⟩ := cs
  match l, h with
  | [c0, c1, c2, c3, c4, c5, c6, c7, c8, c9, c10, c11, c12, c13, c14, c15], _ => exact ⟨_, _, _, _, _, _, _, _, _, _, _, _, _, _, _, _, rfl⟩
theorem cells11 {cs : Array Value} (h : cs.size = 11) : ∃ d0 d1 d2 d3 d4 d5 d6 d7 d8 d9 d10, cs = #[d0, d1, d2, d3, d4, d5, d6, d7, d8, d9, d10] := by
  obtain ⟨l⟩ := cs
  match l, h with
  | [d0, d1, d2, d3, d4, d5, d6, d7, d8, d9, d10], _ => exact ⟨_, _, _, _, _, _, _, _, _, _, _, rfl⟩
theorem range11 {W : World} {b o : Nat} {d0 d1 d2 d3 d4 d5 d6 d7 d8 d9 d10 : Value} (h : W.rangeAt b o [d0, d1, d2, d3, d4, d5, d6, d7, d8, d9, d10]) : W.cell? ⟨b, o, none⟩ = some d0 ∧ W.cell? ⟨b, o + 1, none⟩ = some d1 ∧ W.cell? ⟨b, o + 2, none⟩ = some d2 ∧ W.cell? ⟨b, o + 3, none⟩ = some d3 ∧ W.cell? ⟨b, o + 4, none⟩ = some d4 ∧ W.cell? ⟨b, o + 5, none⟩ = some d5 ∧ W.cell? ⟨b, o + 6, none⟩ = some d6 ∧ W.cell? ⟨b, o + 7, none⟩ = some d7 ∧ W.cell? ⟨b, o + 8, none⟩ = some d8 ∧ W.cell? ⟨b, o + 9, none⟩ = some d9 ∧ W.cell? ⟨b, o + 10, none⟩ = some d10 :=
  ⟨h 0 _ rfl, h 1 _ rfl, h 2 _ rfl, h 3 _ rfl, h 4 _ rfl, h 5 _ rfl, h 6 _ rfl, h 7 _ rfl, h 8 _ rfl, h 9 _ rfl, h 10 _ rfl⟩

/-! ### nil ones -/
section
variable (w : World) (i n k : Int)
set_option maxRecDepth 10000 in
theorem change_nil (f : Value) : Calls Try.prog 26 #[.pointer none, .int .i64 i, .int .i64 n, f] w fun e w' => e = .returned (.tuple #[]) ∧ w = w' := by
  go_enter Try.func26, Try.ntmps26
  go_wp2_with (go_at_call 33; refine (made_nil _).mono ?_; rintro e w' ⟨rfl, rfl⟩)
  refine bodyPost_ret (results_none rfl _ _ _) rfl ?_
  exact ⟨rfl, rfl⟩
set_option maxRecDepth 10000 in
theorem add_nil : Calls Try.prog 10 #[.pointer none, .int .i64 i, .int .i64 n] w fun e w' => e = .returned (.tuple #[]) ∧ w = w' := by
  go_enter Try.func10, Try.ntmps10
  go_wp2_with (go_at_call 26; refine (change_nil _ _ _ _).mono ?_; rintro e w' ⟨rfl, rfl⟩)
  refine bodyPost_end (results_none rfl _ _ _) rfl ?_
  exact ⟨rfl, rfl⟩
set_option maxRecDepth 10000 in
theorem sub_nil : Calls Try.prog 12 #[.pointer none, .int .i64 i, .int .i64 n] w fun e w' => e = .returned (.tuple #[]) ∧ w = w' := by
  go_enter Try.func12, Try.ntmps12
  go_wp2_with (go_at_call 26; refine (change_nil _ _ _ _).mono ?_; rintro e w' ⟨rfl, rfl⟩)
  refine bodyPost_end (results_none rfl _ _ _) rfl ?_
  exact ⟨rfl, rfl⟩
set_option maxRecDepth 10000 in
theorem of_nil : Calls Try.prog 17 #[.pointer none, .int .i64 i] w fun e w' => e = .returned (.int .i64 0) ∧ w = w' := by
  go_enter Try.func17, Try.ntmps17
  go_wp2_with (go_at_call 33; refine (made_nil _).mono ?_; rintro e w' ⟨rfl, rfl⟩)
  go_ret
  exact ⟨rfl, rfl⟩
set_option maxRecDepth 10000 in
theorem over_nil : Calls Try.prog 16 #[.pointer none] w fun e w' => e = .returned (.bool true) ∧ w = w' := by
  go_enter Try.func16, Try.ntmps16
  go_wp2_with (go_at_call 33; refine (made_nil _).mono ?_; rintro e w' ⟨rfl, rfl⟩)
  go_ret
  exact ⟨rfl, rfl⟩
set_option maxRecDepth 10000 in
theorem all_nil : Calls Try.prog 15 #[.pointer none] w fun e w' => e = .returned (.slice none 0 0) ∧ w = w' := by
  go_enter Try.func15, Try.ntmps15
  go_wp2_with (go_at_call 33; refine (made_nil _).mono ?_; rintro e w' ⟨rfl, rfl⟩)
  go_ret
  exact ⟨rfl, rfl⟩
set_option maxRecDepth 10000 in
theorem fits_nil : Calls Try.prog 19 #[.pointer none, .int .i64 i, .int .i64 n, .int .i64 k] w fun e w' => e = .returned (.bool false) ∧ w = w' := by
  by_cases hi0 : 0 ≤ i
  · go_enter Try.func19, Try.ntmps19
    go_wp2_with (go_at_call 16; refine (over_nil _).mono ?_; rintro e w' ⟨rfl, rfl⟩)
    go_ret
    exact ⟨rfl, rfl⟩
  · go_enter Try.func19, Try.ntmps19
    go_wp2_with fail
    go_ret
    exact ⟨rfl, rfl⟩
end

theorem results_cell1 {P : Program} {fn : Func} {p : Tmp} {ty : TypeId} (h : fn.results = #[.cell p ty]) (tmps : Array Value) (w : World) (g : Nat) (t : TypeId) (cs : Array Value) (fr : Nat × Nat) (d : TypeDesc)
    (hp : tmps.getD p undef = .pointer (some ⟨g, 0, none⟩)) (hg : w.heap[g]? = some (.cells cs t fr))
    (hu : P.underlying ty = some d) (hd : (match d with | .struct _ | .array _ _ => true | _ => false) = true) (hi : (P.info? ty).map (·.size) = some cs.size) :
    (results fn tmps).run P w = .ok (.agg cs) w := by
  have h1 : tmps[p]?.getD undef = .pointer (some ⟨g, 0, none⟩) := by simpa using hp
  simp [results, h, h1, asAddr, run_loadVar_row w g t ty cs fr d hg hu hd hi]
/-! ### what a want takes -/
/-- which one: below 0, the first choice -/
def WV.took (v : WV) (k : Int) : Array Value := if 0 ≤ k ∧ k < v.ds.length then (v.ds.getD k.toNat ⟨#[], 0⟩).cs else v.cs.extract 3 14
def WV.takes (v : WV) (k : Int) : Int := if 0 ≤ k ∧ k < v.ds.length then (v.ds.getD k.toNat ⟨#[], 0⟩).f else v.f
theorem mem_mid {c0 c1 c2 c3 c4 c5 c6 c7 c8 c9 c10 c11 c12 c13 c14 c15 u : Value} (h : u ∈ #[c3, c4, c5, c6, c7, c8, c9, c10, c11, c12, c13]) : u ∈ #[c0, c1, c2, c3, c4, c5, c6, c7, c8, c9, c10, c11, c12, c13, c14, c15] := by
  have h1 : u ∈ [c3, c4, c5, c6, c7, c8, c9, c10, c11, c12, c13] := by simpa using h
  have h2 : u ∈ [c0, c1, c2] ++ [c3, c4, c5, c6, c7, c8, c9, c10, c11, c12, c13] ++ [c14, c15] := List.mem_append_left _ (List.mem_append_right _ h1)
  simpa using h2
set_option maxRecDepth 20000 in
set_option maxHeartbeats 4000000 in
theorem taken_first {w : World} (v : WV) (hv : v.ok) (k : Int) (hk : v.cs[15]? = some (.int .i64 k)) (h : ¬ (0 ≤ k ∧ k < v.ds.length)) :
    Calls Try.prog 24 #[.agg v.cs] w fun e w' => e = .returned (.agg (v.took k)) ∧ Below w.heap.size w w' := by
  have HT := Lib.hid fun (_ : Unit) => (show v.took k = v.cs.extract 3 14 from if_neg h)
  generalize v.took k = r at *
  obtain ⟨cs, m, f, D', dc, ds⟩ := v
  have hsz : cs.size = 16 := hv.size
  have hdt := hv.dets
  simp only at *
  obtain ⟨c0, c1, c2, c3, c4, c5, c6, c7, c8, c9, c10, c11, c12, c13, c14, c15, rfl⟩ := cells16 hsz
  simp at hk hdt
  subst hk hdt
  have hlen := hv.len
  simp only at hlen
  have hone := hv.one
  simp only at hone
  clear hv hsz
  have hb := below_a2 w (.cells #[c0, c1, c2, c3, c4, c5, c6, c7, c8, c9, c10, c11, c12, c13, .slice D' ds.length dc, .int .i64 k] 54) (.cells #[c3, c4, c5, c6, c7, c8, c9, c10, c11, c12, c13] 51)
  have HB := Lib.hid fun (_ : Unit) => (show Blk ((w.alloc (.cells #[c0, c1, c2, c3, c4, c5, c6, c7, c8, c9, c10, c11, c12, c13, .slice D' ds.length dc, .int .i64 k] 54)).alloc (.cells #[c3, c4, c5, c6, c7, c8, c9, c10, c11, c12, c13] 51)) (w.heap.size + 1) 51 #[c3, c4, c5, c6, c7, c8, c9, c10, c11, c12, c13] from by
    have := Blk.new (w.alloc (.cells #[c0, c1, c2, c3, c4, c5, c6, c7, c8, c9, c10, c11, c12, c13, .slice D' ds.length dc, .int .i64 k] 54)) 51 #[c3, c4, c5, c6, c7, c8, c9, c10, c11, c12, c13]
    rwa [World.size_alloc] at this)
  have HO := Lib.hid (show (#[c3, c4, c5, c6, c7, c8, c9, c10, c11, c12, c13] : Array Value).all (·.oneCell') = true by
    rw [Array.all_eq_true'] at hone ⊢
    intro u hu
    exact hone u (mem_mid hu))
  clear hone
  by_cases h0 : 0 ≤ k
  · have h1 : ¬ k < ds.length := fun h2 => h ⟨h0, h2⟩
    go_enter Try.func24, Try.ntmps24
    go_wp2_with (refine wpList_store_new (by rfl) 51 (.tmp 2) (.tmp 21) rfl (w.alloc (.cells #[c0, c1, c2, c3, c4, c5, c6, c7, c8, c9, c10, c11, c12, c13, .slice D' ds.length dc, .int .i64 k] 54)) _ #[c3, c4, c5, c6, c7, c8, c9, c10, c11, c12, c13] (by rfl) (by rw [World.size_alloc]; rfl) (by rfl) (by kernel_rfl) (by rfl) HO.out ?_)
    refine bodyPost_ret (results_cell1 rfl _ _ (w.heap.size + 1) 51 #[c3, c4, c5, c6, c7, c8, c9, c10, c11, c12, c13] (0, 0) _ (by simp) (HB.out ()) Try.underlying51 rfl (by kernel_rfl)) rfl ?_
    exact ⟨by rw [HT.out ()] <;> rfl, hb⟩
  · go_enter Try.func24, Try.ntmps24
    go_wp2_with (refine wpList_store_new (by rfl) 51 (.tmp 2) (.tmp 21) rfl (w.alloc (.cells #[c0, c1, c2, c3, c4, c5, c6, c7, c8, c9, c10, c11, c12, c13, .slice D' ds.length dc, .int .i64 k] 54)) _ #[c3, c4, c5, c6, c7, c8, c9, c10, c11, c12, c13] (by rfl) (by rw [World.size_alloc]; rfl) (by rfl) (by kernel_rfl) (by rfl) HO.out ?_)
    refine bodyPost_ret (results_cell1 rfl _ _ (w.heap.size + 1) 51 #[c3, c4, c5, c6, c7, c8, c9, c10, c11, c12, c13] (0, 0) _ (by simp) (HB.out ()) Try.underlying51 rfl (by kernel_rfl)) rfl ?_
    exact ⟨by rw [HT.out ()] <;> rfl, hb⟩
set_option maxRecDepth 20000 in
set_option maxHeartbeats 4000000 in
theorem taken_det {w : World} (v : WV) (hv : v.ok) (hr : Reads w (fun _ => True) v.D (optCells v.ds)) (k : Nat) (hk : v.cs[15]? = some (.int .i64 k)) (h : k < v.ds.length) :
    Calls Try.prog 24 #[.agg v.cs] w fun e w' => e = .returned (.agg (v.took k)) ∧ Below w.heap.size w w' := by
  obtain ⟨b, off, hD, _, hbw, hrg⟩ := hr.rangeAt (by omega) (optsLen hv.all) h
  have hod := hv.all _ (List.getElem_mem h)
  have HT := Lib.hid fun (_ : Unit) => (show v.took k = v.ds[k].cs by
    unfold WV.took
    rw [if_pos ⟨by omega, by omega⟩]
    simp [List.getD, h])
  generalize v.took k = r at *
  have hsz := hod.size
  have hone := hod.one
  have hdl := hv.len
  generalize v.ds[k] = od at *
  obtain ⟨d0, d1, d2, d3, d4, d5, d6, d7, d8, d9, d10, hoc⟩ := cells11 hsz
  rw [hoc] at hrg hone HT
  obtain ⟨cs, m, f, D', dc, ds⟩ := v
  have hsz : cs.size = 16 := hv.size
  have hdt := hv.dets
  simp only at *
  obtain ⟨c0, c1, c2, c3, c4, c5, c6, c7, c8, c9, c10, c11, c12, c13, c14, c15, rfl⟩ := cells16 hsz
  simp at hk hdt
  subst hk hdt hD
  clear hv hsz hr hod hoc
  have hrg2 : (w.alloc (.cells #[c0, c1, c2, c3, c4, c5, c6, c7, c8, c9, c10, c11, c12, c13, .slice (some ⟨b, off, none⟩) ds.length dc, .int .i64 k] 54)).rangeAt b (off + k * 11) [d0, d1, d2, d3, d4, d5, d6, d7, d8, d9, d10] := fun j u hj => ((below_a1 w _).cell (p := ⟨b, off + k * 11 + j, none⟩) hbw).trans (hrg j u hj)
  have hrg3 : ((w.alloc (.cells #[c0, c1, c2, c3, c4, c5, c6, c7, c8, c9, c10, c11, c12, c13, .slice (some ⟨b, off, none⟩) ds.length dc, .int .i64 k] 54)).alloc (.cells #[.int .i64 0, .int .u32 0, .int .i64 0, .int .i64 0, .int .i64 0, .slice none 0 0, .int .u32 0, .int .i64 0, .int .i64 0, .slice none 0 0, .int .i64 0] 51)).rangeAt b (off + k * 11) [d0, d1, d2, d3, d4, d5, d6, d7, d8, d9, d10] := fun j u hj => ((below_a1 (w.alloc (.cells #[c0, c1, c2, c3, c4, c5, c6, c7, c8, c9, c10, c11, c12, c13, .slice (some ⟨b, off, none⟩) ds.length dc, .int .i64 k] 54)) (.cells #[.int .i64 0, .int .u32 0, .int .i64 0, .int .i64 0, .int .i64 0, .slice none 0 0, .int .u32 0, .int .i64 0, .int .i64 0, .slice none 0 0, .int .i64 0] 51)).cell (p := ⟨b, off + k * 11 + j, none⟩) (by rw [World.size_alloc]; exact Nat.lt_succ_of_lt hbw)).trans (hrg2 j u hj)
  have HRG := Lib.hid hrg3
  clear hrg hrg2 hrg3
  have hk1 : (k : Int) < ds.length := by omega
  have hb := below_a2 w (.cells #[c0, c1, c2, c3, c4, c5, c6, c7, c8, c9, c10, c11, c12, c13, .slice (some ⟨b, off, none⟩) ds.length dc, .int .i64 k] 54) (.cells #[d0, d1, d2, d3, d4, d5, d6, d7, d8, d9, d10] 51)
  have HB := Lib.hid fun (_ : Unit) => (show Blk ((w.alloc (.cells #[c0, c1, c2, c3, c4, c5, c6, c7, c8, c9, c10, c11, c12, c13, .slice (some ⟨b, off, none⟩) ds.length dc, .int .i64 k] 54)).alloc (.cells #[d0, d1, d2, d3, d4, d5, d6, d7, d8, d9, d10] 51)) (w.heap.size + 1) 51 #[d0, d1, d2, d3, d4, d5, d6, d7, d8, d9, d10] from by
    have := Blk.new (w.alloc (.cells #[c0, c1, c2, c3, c4, c5, c6, c7, c8, c9, c10, c11, c12, c13, .slice (some ⟨b, off, none⟩) ds.length dc, .int .i64 k] 54)) 51 #[d0, d1, d2, d3, d4, d5, d6, d7, d8, d9, d10]
    rwa [World.size_alloc] at this)
  have HO := Lib.hid hone
  clear hone
  go_enter Try.func24, Try.ntmps24
  go_wp2_with (first | (refine wpList_load_mid rfl 51 (.tmp 18) rfl b (off + k * 11) rfl _ _ HRG.out Try.underlying51 rfl (by kernel_rfl) ?_) | (refine wpList_store_new (by rfl) 51 (.tmp 2) (.tmp 19) rfl (w.alloc (.cells #[c0, c1, c2, c3, c4, c5, c6, c7, c8, c9, c10, c11, c12, c13, .slice (some ⟨b, off, none⟩) ds.length dc, .int .i64 k] 54)) _ #[d0, d1, d2, d3, d4, d5, d6, d7, d8, d9, d10] (by rfl) (by rw [World.size_alloc]; rfl) (by rfl) (by kernel_rfl) (by rfl) HO.out ?_))
  refine bodyPost_ret (results_cell1 rfl _ _ (w.heap.size + 1) 51 #[d0, d1, d2, d3, d4, d5, d6, d7, d8, d9, d10] (0, 0) _ (by simp [Act.put]) (HB.out ()) Try.underlying51 rfl (by kernel_rfl)) rfl ?_
  exact ⟨by rw [HT.out ()] <;> rfl, hb⟩
theorem taken_any {w : World} (v : WV) (hv : v.ok) (hr : Reads w (fun _ => True) v.D (optCells v.ds)) (k : Int) (hk : v.cs[15]? = some (.int .i64 k)) :
    Calls Try.prog 24 #[.agg v.cs] w fun e w' => e = .returned (.agg (v.took k)) ∧ Below w.heap.size w w' := by
  by_cases h : 0 ≤ k ∧ k < v.ds.length
  · obtain ⟨j, rfl⟩ : ∃ j : Nat, k = j := ⟨k.toNat, by omega⟩
    exact taken_det v hv hr j hk (by omega)
  · exact taken_first v hv k hk h
end Go.Proofs.Ytneablcgcdmgpaa
