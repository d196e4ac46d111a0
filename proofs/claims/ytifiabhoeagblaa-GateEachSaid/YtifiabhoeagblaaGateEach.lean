/-
  What is fresh is so no more, if one session falls, one source was heard too long ago, or a route was refused: the walk of 'GateEach'. No condition but that the arguments read as data.
-/
import Derived.Test.YtifiabhoeagblaaGateLives
import Derived.Test.YtifiabhoeagblaaConfC
import Derived.Test.YtifiabhoeagblaaBytes
import Derived.Laws.Tables
import Derived.Laws.OwnMore
import Derived.Lib.SmallJoins
namespace Go.Proofs.Ytifiabhoeagblaa
open Go.ChangeShapes Go.WideShapes Go.ChangeAt Go.RowKit

theorem large_any (A0 A1 A2 : Option Addr) (n0 n1 n2 k0 k1 k2 : Nat) (x : Value) (w : World) : Calls Try.prog 16 #[.agg #[.slice A0 n0 k0, .slice A1 n1 k1, .slice A2 n2 k2, x]] w
    fun e w' => RetB (fun v => v = false → n0 ≤ 100 ∧ n1 ≤ 100 ∧ n2 ≤ 100) e ∧ Below w.heap.size w w' := by
  by_cases h0 : (100 : Int) < n0
  case pos =>
    go_enter Try.func16, Try.ntmps16
    go_wp2
    go_ret
    exact ⟨⟨_, rfl, by intro h; cases h⟩, (Below.refl _ _).alloc (Nat.le_refl _) _⟩
  by_cases h1 : (100 : Int) < n1
  case pos =>
    go_enter Try.func16, Try.ntmps16
    go_wp2
    go_ret
    exact ⟨⟨_, rfl, by intro h; cases h⟩, (Below.refl _ _).alloc (Nat.le_refl _) _⟩
  by_cases h2 : (100 : Int) < n2
  case pos =>
    go_enter Try.func16, Try.ntmps16
    go_wp2
    go_ret
    exact ⟨⟨_, rfl, by intro h; cases h⟩, (Below.refl _ _).alloc (Nat.le_refl _) _⟩
  go_enter Try.func16, Try.ntmps16
  go_wp2
  go_ret
  exact ⟨⟨_, rfl, fun _ => by omega⟩, (Below.refl _ _).alloc (Nat.le_refl _) _⟩

theorem setRow_blk {w : World} {g : Nat} {t : TypeId} {cs : Array Value} (h : Blk w g t cs) (cs' : Array Value) : Blk (w.setRow g cs') g t cs' ∧ Only (· = g) w (w.setRow g cs') := by
  refine ⟨setRow_heap w g cs cs' t _ h, rfl, rfl, rfl, by simp [World.setRow], fun k hk hn => ?_⟩
  unfold World.setRow
  simp [Array.getElem?_modify, Ne.symm (show k ≠ g from hn)]

/-- the two arguments, boxed, while the law runs -/
structure GE (w W : World) (b : Nat) (cv iv : Array Value) : Prop where
  conf : Blk W b 38 cv
  inp : Blk W (b + 1) 41 iv
  bel : Below w.heap.size w W
  lo : w.heap.size ≤ b
theorem GE.only {w W W' : World} {S : Nat → Prop} {b : Nat} {cv iv : Array Value} (h : GE w W b cv iv) (ho : Only S W W') (hS : ∀ k, S k → b + 1 < k) : GE w W' b cv iv :=
  ⟨h.conf.only ho (fun hs => by have := hS _ hs; omega), h.inp.only ho (fun hs => by have := hS _ hs; omega), h.bel.trans (ho.below h.bel.size (fun k hk => by have := hS k hk; have := h.lo; omega)), h.lo⟩
theorem GE.below {w W W' : World} {b : Nat} {cv iv : Array Value} (h : GE w W b cv iv) (hb : Below W.heap.size W W') : GE w W' b cv iv := h.only (S := fun _ => False) (Only.of_below hb) (fun _ hk => hk.elim)
theorem GE.lt {w W : World} {b : Nat} {cv iv : Array Value} (h : GE w W b cv iv) : b + 1 < W.heap.size := h.inp.lt

theorem fresh_refused (routers counts carries stale : Int) (up : List Bool) (cs ks : List (Int × Bool)) (now : Int) : freshL routers counts carries stale up cs ks 1 now = false := by simp [freshL]
theorem fresh_down {routers counts carries stale : Int} {up : List Bool} {cs ks : List (Int × Bool)} {refused now : Int} {k : Nat} (hk : k < up.length) (hr : (k : Int) < routers) : freshL routers counts carries stale (up.set k false) cs ks refused now = false := by
  have : ((up.set k false).take routers.toNat).all id = false := take_all_false (k := k) (by simpa using hk) (by omega) (by simp)
  simp [freshL, upL, this]
theorem fresh_old {routers counts carries stale : Int} {up : List Bool} {cs ks : List (Int × Bool)} {refused now : Int} {k : Nat} (hk : k < cs.length) (hr : (k : Int) < counts) (b : Bool) : freshL routers counts carries stale up (cs.set k (now - stale - 1, b)) ks refused now = false := by
  have : heardL (cs.set k (now - stale - 1, b)) counts stale now = false := heard_false (k := k) (by simpa using hk) hr (by simp [inT]; omega)
  simp [freshL, this]
theorem fresh_lens {routers counts carries stale : Int} {up : List Bool} {cs ks : List (Int × Bool)} {refused now : Int} (h : freshL routers counts carries stale up cs ks refused now = true) : routers ≤ up.length ∧ counts ≤ cs.length := by
  simp [freshL, upL, heardL] at h
  omega
theorem stampCells_set (l : List (Int × Bool)) : ∀ (k : Nat) (h : k < l.length) (a : Int), (stampCells l).set (2 * k) (.int .i64 a) = stampCells (l.set k (a, (l[k]'h).2)) := by
  induction l with
  | nil => intro k h; simp at h
  | cons s r ih =>
    intro k h a
    cases k with
    | zero => simp [stampCells]
    | succ k =>
      have := ih k (by simpa using h) a
      rw [show 2 * (k + 1) = 2 * k + 1 + 1 from by omega]
      simpa [stampCells] using this
theorem infoBool : (Try.prog.info? 4).map (fun i => (i.zero, i.size, i.bytes)) = some (some (.bool false), 1, 1) := by kernel_rfl
theorem infoStamp : (Try.prog.info? 46).map (fun i => (i.zero, i.size, i.bytes)) = some (some (.agg #[.int .i64 0, .bool false]), 2, 16) := by kernel_rfl
theorem bools_one (l : List Bool) : ∀ u ∈ l.map Value.bool, u.oneCell' = true := by
  intro u hu
  obtain ⟨_, _, rfl⟩ := List.mem_map.1 hu
  rfl
theorem stamps_one (l : List (Int × Bool)) : ∀ u ∈ stampCells l, u.oneCell' = true := by
  induction l with
  | nil => intro u hu; simp [stampCells] at hu
  | cons s r ih =>
    intro u hu
    simp only [stampCells, List.mem_cons] at hu
    rcases hu with rfl | rfl | hu
    · rfl
    · rfl
    · exact ih u hu

theorem fresh_any2 (c0 c1 c2 c3 c7 c8 c9 c10 c11 c13 c14 c15 c16 c17 c18 c19 : Value) (routers counts carries stale refused now : Int) (A0 A1 A2 : Option Addr) (k0 k1 k2 n0 n1 : Nat)
    (up : List Bool) (cs ks : List (Int × Bool)) (F : Nat → Prop) (w : World) (e0 : up.length = n0) (e1 : cs.length = n1) (hnow : now ≤ 9223372036854775807) (hl0 : n0 ≤ 9223372036854775807) (hl1 : n1 ≤ 9223372036854775807) (hl2 : ks.length ≤ 9223372036854775807)
    (hr0 : Reads w F A0 (up.map Value.bool)) (hr1 : Reads w F A1 (stampCells cs)) (hr2 : Reads w F A2 (stampCells ks)) (v : Bool) (hv : freshL routers counts carries stale up cs ks refused now = v) :
    Calls Try.prog 18 #[.agg #[c0, c1, c2, c3, .int .i64 routers, .int .i64 counts, .int .i64 carries, c7, c8, c9, c10, c11, .int .i64 stale, c13, c14, c15, c16, c17, c18, c19],
        .agg #[.slice A0 n0 k0, .slice A1 n1 k1, .slice A2 ks.length k2, .int .i64 refused], .int .i64 now] w
      fun e w' => e = .returned (.bool v) ∧ Below w.heap.size w w' := by
  subst e0 e1 hv
  exact fresh_any c0 c1 c2 c3 c7 c8 c9 c10 c11 c13 c14 c15 c16 c17 c18 c19 routers counts carries stale refused now A0 A1 A2 k0 k1 k2 up cs ks F w hnow hl0 hl1 hl2 hr0 hr1 hr2
theorem wpList_store_blk {P : Program} {ops : Array Oper} {rest : List Oper} {o : Oper} {a : Act} {w : World} {Q : Exit → Act → World → Prop} (hg : Region.wanted o (yielded ops a.tmps) = true) (ty : TypeId) (x y : Operand) (ho : o.op = .store ty x y)
    (g : Nat) (cells : Array Value) (hx : a.eval x = .pointer (some ⟨g, 0, none⟩)) (hy : a.eval y = .agg cells) (t : TypeId) (old : Array Value) (hb : Blk w g t old) (hi : (P.info? ty).map (·.size) = some cells.size)
    (hold : old.size = cells.size) (h1 : cells.all (·.oneCell') = true) (h : wpList P ops Q rest (a.put o.dst undef) (w.setRow g cells)) : wpList P ops Q (o :: rest) a w :=
  wpList_wanted hg fun _ hK => wp_store_row ty x y ho g cells hx hy t old hb hi hold h1 (hK _ _ h)
theorem inp_one (A0 A1 A2 : Option Addr) (n0 n1 n2 k0 k1 k2 : Nat) (x : Int) : (#[Value.slice A0 n0 k0, .slice A1 n1 k1, .slice A2 n2 k2, .int .i64 x] : Array Value).all (·.oneCell') = true := by simp [Value.oneCell']
theorem own_form {w : World} {base size n : Nat} {e : TypeId} {v : Value} {xs : List Value} (h : w.ownsRow base e size v n xs) (hn : 0 < n) : ∃ g cap, v = .slice (some ⟨g, 0, none⟩) n cap := by
  rcases h.2 with ⟨_, h0⟩ | ⟨g, cap, _, hv, _⟩
  · omega
  · exact ⟨g, cap, hv⟩
theorem own_reads1 {w : World} {B : Nat} {e : TypeId} {size n g c : Nat} {xs : List Value} (h : w.ownsRow B e size (.slice (some ⟨g, 0, none⟩) n c) n xs) : Reads w (fun _ => True) (some ⟨g, 0, none⟩) xs := by
  refine .inr ⟨g, 0, rfl, trivial, (h.lt g rfl).2, fun j u hj => ?_⟩
  have := h.cells (g := g) rfl j u hj
  rwa [addr_add rfl] at this

set_option maxHeartbeats 16000000 in
theorem gate_each_walk (AS ID H R routers counts carries high low moves cycle stale warm expire pref longer routes queue : Int) (A AD : Option Addr) (c cd : Nat) (l : List IfR) (deny : List Int) (A0 A1 A2 : Option Addr) (k0 k1 k2 : Nat) (up : List Bool) (cts ks : List (Int × Bool)) (refused now at_ : Int) (F : Nat → Prop) (w : World)
    (hnow : now ≤ 9223372036854775807) (hl : l.length ≤ 9223372036854775807) (hdl : deny.length ≤ 9223372036854775807) (hl0 : up.length ≤ 9223372036854775807) (hl1 : cts.length ≤ 9223372036854775807) (hl2 : ks.length ≤ 9223372036854775807)
    (hr : Reads w F A (l.flatMap IfR.cells)) (hd : Reads w F AD (deny.map (Value.int .i64))) (hr0 : Reads w F A0 (up.map Value.bool)) (hr1 : Reads w F A1 (stampCells cts)) (hr2 : Reads w F A2 (stampCells ks)) :
    Calls Try.prog 5 #[.agg #[.int .i64 AS, .int .u32 ID, .int .i64 H, .int .i64 R, .int .i64 routers, .int .i64 counts, .int .i64 carries, .slice A l.length c, .int .i64 high, .int .i64 low, .int .i64 moves, .int .i64 cycle, .int .i64 stale, .int .i64 warm, .int .i64 expire, .int .i64 pref, .int .i64 longer, .slice AD deny.length cd, .int .i64 routes, .int .i64 queue], .agg #[.slice A0 up.length k0, .slice A1 cts.length k1, .slice A2 ks.length k2, .int .i64 refused], .int .i64 now, .int .i64 at_] w fun e w' => e = .returned (.bool true) ∧ Below w.heap.size w w' := by
  have hF : ∀ {xs : List Value} {B : Option Addr}, Reads w F B xs → Reads w (· < w.heap.size) B xs := fun h => h.mono (fun k hk _ => hk)
  have hr := Lib.hid (hF hr)
  have hd := Lib.hid (hF hd)
  have hr0 := Lib.hid (hF hr0)
  have hr1 := Lib.hid (hF hr1)
  have hr2 := Lib.hid (hF hr2)
  clear hF
  have hG : GE w ((w.alloc (.cells #[.int .i64 AS, .int .u32 ID, .int .i64 H, .int .i64 R, .int .i64 routers, .int .i64 counts, .int .i64 carries, .slice A l.length c, .int .i64 high, .int .i64 low, .int .i64 moves, .int .i64 cycle, .int .i64 stale, .int .i64 warm, .int .i64 expire, .int .i64 pref, .int .i64 longer, .slice AD deny.length cd, .int .i64 routes, .int .i64 queue] 38)).alloc (.cells #[.slice A0 up.length k0, .slice A1 cts.length k1, .slice A2 ks.length k2, .int .i64 refused] 41)) w.heap.size #[.int .i64 AS, .int .u32 ID, .int .i64 H, .int .i64 R, .int .i64 routers, .int .i64 counts, .int .i64 carries, .slice A l.length c, .int .i64 high, .int .i64 low, .int .i64 moves, .int .i64 cycle, .int .i64 stale, .int .i64 warm, .int .i64 expire, .int .i64 pref, .int .i64 longer, .slice AD deny.length cd, .int .i64 routes, .int .i64 queue] #[.slice A0 up.length k0, .slice A1 cts.length k1, .slice A2 ks.length k2, .int .i64 refused] := by
    have := Blk.new (w.alloc (.cells #[.int .i64 AS, .int .u32 ID, .int .i64 H, .int .i64 R, .int .i64 routers, .int .i64 counts, .int .i64 carries, .slice A l.length c, .int .i64 high, .int .i64 low, .int .i64 moves, .int .i64 cycle, .int .i64 stale, .int .i64 warm, .int .i64 expire, .int .i64 pref, .int .i64 longer, .slice AD deny.length cd, .int .i64 routes, .int .i64 queue] 38)) 41 #[.slice A0 up.length k0, .slice A1 cts.length k1, .slice A2 ks.length k2, .int .i64 refused]
    exact ⟨(Blk.new w _ _).alloc _, by simpa using this, ((Below.refl _ _).alloc (Nat.le_refl _) _).alloc (by simp) _, Nat.le_refl _⟩
  go_enter Try.func5, Try.ntmps5
  go_wp2_with fail
  refine (large_any _ _ _ _ _ _ _ _ _ _ _).mono ?_
  rintro e W1 ⟨⟨v, rfl, hv⟩, hb⟩
  have g1 := hG.below hb
  clear hG hb
  cases v
  case true =>
    go_wp2_with fail
    refine (gate_lives _).mono ?_
    rintro e W9 ⟨rfl, hb9⟩
    go_wp2_with fail
    go_ret
    exact ⟨rfl, g1.bel.trans (hb9.mono g1.bel.size)⟩
  obtain ⟨hv0, hv1, hv2⟩ := hv rfl
  clear hv
  by_cases hn : now < 0
  case pos =>
    go_wp2_with fail
    refine (gate_lives _).mono ?_
    rintro e W9 ⟨rfl, hb9⟩
    go_wp2_with fail
    go_ret
    exact ⟨rfl, g1.bel.trans (hb9.mono g1.bel.size)⟩
  have dn : decide (now < 0) = false := decide_eq_false hn
  go_wp2_with (first | (refine wpList_load_blk (by rfl) 38 (.tmp 4) rfl w.heap.size (by rfl) _ _ _ g1.conf Try.underlying38 rfl (by kernel_rfl) ?_) | (refine wpList_load_blk (by rfl) 41 (.tmp 5) rfl (w.heap.size + 1) (by rfl) _ _ _ g1.inp Try.underlying41 rfl (by kernel_rfl) ?_))
  refine (conf_check _ _ _ _ _ _ _ _ _ _ _ _ _ _ _ _ _ _ A AD c cd l deny (· < w.heap.size) _ hl hdl (hr.out.below g1.bel (fun _ _ h => h)) (hd.out.below g1.bel (fun _ _ h => h))).mono ?_
  rintro e W2 ⟨⟨v, rfl, hst⟩, hb⟩
  have g2 := g1.below hb
  clear g1 hb
  cases v
  case false =>
    go_wp2_with fail
    refine (gate_lives _).mono ?_
    rintro e W9 ⟨rfl, hb9⟩
    go_wp2_with fail
    go_ret
    exact ⟨rfl, g2.bel.trans (hb9.mono g2.bel.size)⟩
  obtain ⟨hst1, hst2⟩ := hst rfl
  clear hst
  go_wp2_with (first | (refine wpList_load_blk (by rfl) 38 (.tmp 4) rfl w.heap.size (by rfl) _ _ _ g2.conf Try.underlying38 rfl (by kernel_rfl) ?_) | (refine wpList_load_blk (by rfl) 41 (.tmp 5) rfl (w.heap.size + 1) (by rfl) _ _ _ g2.inp Try.underlying41 rfl (by kernel_rfl) ?_))
  refine (fresh_any _ _ _ _ _ _ _ _ _ _ _ _ _ _ _ _ _ _ _ _ _ _ _ _ _ _ _ _ up cts ks (· < w.heap.size) _ hnow hl0 hl1 hl2 (hr0.out.below g2.bel (fun _ _ h => h)) (hr1.out.below g2.bel (fun _ _ h => h)) (hr2.out.below g2.bel (fun _ _ h => h))).mono ?_
  rintro e W3 ⟨he, hb⟩
  have g3 := g2.below hb
  clear g2 hb
  cases hf : freshL routers counts carries stale up cts ks refused now
  case false =>
    rw [hf] at he
    subst he
    clear hf
    go_wp2_with fail
    refine (gate_lives _).mono ?_
    rintro e W9 ⟨rfl, hb9⟩
    go_wp2_with fail
    go_ret
    exact ⟨rfl, g3.bel.trans (hb9.mono g3.bel.size)⟩
  rw [hf] at he
  subst he
  obtain ⟨hlr, hlc⟩ := fresh_lens hf
  clear hf
  obtain ⟨ib, hib, hb0, hb1, hb2⟩ := info_parts infoBool
  obtain ⟨is_, his, hs0, hs1, hs2⟩ := info_parts infoStamp
  have cu : (W3.alloc (.cells #[] 4)).cell? ⟨w.heap.size + 1, 0, none⟩ = some (.slice A0 up.length k0) := by have := (g3.inp.alloc (.cells #[] 4)).cell 0; simpa using this
  go_wp2_with (refine wpList_append_rd _ rfl (.tmp 31) (.tmp 33) 22 rfl W3.heap.size 4 ib (.bool false) 1 1 Try.underlying22 hib hb0 hb1 hb2 rfl (by omega) _ 0 [] (by rfl) (own_empty _ _ _ _ _ (Nat.le_refl _) (heap_alloc_new W3 _)) (· < w.heap.size) A0 up.length k0 (up.map Value.bool) (by rfl) (by simp) ((hr0.out.below g3.bel (fun _ _ h => h)).alloc _) (bools_one up) (by unfold maxLen; omega) (by omega) (by simp) ?_)
  intro vu W4 hu4 hgu hatu
  have b4 : Below W3.heap.size W3 W4 := ((Below.refl _ _).alloc (Nat.le_refl _) _).grown hgu (by simp) (fun k hk => by simp [Value.ownBlock] at hk; omega)
  have g4 := g3.below b4
  have hu4 : W4.ownsRow W3.heap.size 4 1 vu up.length (up.map Value.bool) := by simpa using hu4
  clear cu hgu hatu
  have cc : (W4.alloc (.cells #[] 46)).cell? ⟨w.heap.size + 1, 1, none⟩ = some (.slice A1 cts.length k1) := by have := (g4.inp.alloc (.cells #[] 46)).cell 1; simpa using this
  go_wp2_with (refine wpList_append_rd _ rfl (.tmp 35) (.tmp 37) 39 rfl W4.heap.size 46 is_ (.agg #[.int .i64 0, .bool false]) 2 16 Try.underlying39 his hs0 hs1 hs2 rfl (by omega) _ 0 [] (by rfl) (own_empty _ _ _ _ _ (Nat.le_refl _) (heap_alloc_new W4 _)) (· < w.heap.size) A1 cts.length k1 (stampCells cts) (by rfl) (by rw [stampCells_length]; omega) ((hr1.out.below g4.bel (fun _ _ h => h)).alloc _) (stamps_one cts) (by unfold maxLen; omega) (by omega) (by simp) ?_)
  intro vc W5 hc5 hgc hatc
  have b5 : Below W4.heap.size W4 W5 := ((Below.refl _ _).alloc (Nat.le_refl _) _).grown hgc (by simp) (fun k hk => by simp [Value.ownBlock] at hk; omega)
  have g5 := g4.below b5
  have hc5 : W5.ownsRow W4.heap.size 46 2 vc cts.length (stampCells cts) := by simpa using hc5
  have hu5 := own_below hu4 b5 (Nat.le_refl _)
  have lu : ∀ k, vu.ownBlock = some k → w.heap.size + 1 < k ∧ k < W4.heap.size := fun k hk => by have := hu4.lt k hk; have := g3.lt; omega
  have lc : ∀ k, vc.ownBlock = some k → W4.heap.size ≤ k ∧ k < W5.heap.size := fun k hk => hc5.lt k hk
  have h45 := b5.size
  have hw4 := g4.lt
  have g5j := g5.below ((Below.refl W5.heap.size W5).alloc (Nat.le_refl _) (.cells #[.slice A0 up.length k0, .slice A1 cts.length k1, .slice A2 ks.length k2, .int .i64 1] 41))
  have hj5 := Blk.new W5 41 #[.slice A0 up.length k0, .slice A1 cts.length k1, .slice A2 ks.length k2, .int .i64 1]
  clear cc hgc hatc b4 b5 hu4
  go_wp2_with (first | (refine wpList_load_blk (by rfl) 38 (.tmp 4) rfl w.heap.size (by rfl) _ _ _ g5j.conf Try.underlying38 rfl (by kernel_rfl) ?_) | (refine wpList_load_blk (by rfl) 41 (.tmp 5) rfl (w.heap.size + 1) (by rfl) _ _ _ g5.inp Try.underlying41 rfl (by kernel_rfl) ?_) | (refine wpList_load_blk (by rfl) 41 (.tmp 11) rfl W5.heap.size (by rfl) _ _ _ hj5 Try.underlying41 rfl (by kernel_rfl) ?_) | (refine wpList_store_new (by rfl) 41 (.tmp 11) (.tmp 39) rfl W5 _ _ (by rfl) (by rfl) (by rfl) (by kernel_rfl) (by rfl) (by rfl) ?_))
  refine (fresh_any2 _ _ _ _ _ _ _ _ _ _ _ _ _ _ _ _ _ _ _ _ _ _ _ _ _ _ _ _ _ _ up cts ks (fun _ => True) _ rfl rfl hnow hl0 hl1 hl2 ((hr0.out.below g5j.bel (fun _ _ h => h)).mono (fun _ _ _ => trivial)) ((hr1.out.below g5j.bel (fun _ _ h => h)).mono (fun _ _ _ => trivial)) ((hr2.out.below g5j.bel (fun _ _ h => h)).mono (fun _ _ _ => trivial)) false (fresh_refused _ _ _ _ _ _ _ _)).mono ?_
  rintro e W6 ⟨rfl, hb⟩
  have g6 := g5j.below hb
  have hj6 := hj5.below hb hj5.lt
  have hu6 := own_only (hu5.alloc _) (S := fun _ => False) (Only.of_below hb) (fun _ _ h => h)
  have hc6 := own_only (hc5.alloc _) (S := fun _ => False) (Only.of_below hb) (fun _ _ h => h)
  have hjl : w.heap.size + 1 < W5.heap.size := g5.lt
  clear g5 g5j hj5 hu5 hc5 hb
  generalize W5.heap.size = jb at hj6 lc hjl h45 ⊢
  by_cases hat : 0 ≤ at_
  case neg =>
    have da : decide (0 ≤ at_) = false := decide_eq_false hat
    go_wp2_with fail
    refine (gate_lives _).mono ?_
    rintro e W9 ⟨rfl, hb9⟩
    go_wp2_with fail
    go_ret
    exact ⟨rfl, g6.bel.trans (hb9.mono g6.bel.size)⟩
  obtain ⟨k, rfl⟩ := Int.eq_ofNat_of_zero_le hat
  have xr : ∀ {W : World} {iv : Array Value}, GE w W w.heap.size #[.int .i64 AS, .int .u32 ID, .int .i64 H, .int .i64 R, .int .i64 routers, .int .i64 counts, .int .i64 carries, .slice A l.length c, .int .i64 high, .int .i64 low, .int .i64 moves, .int .i64 cycle, .int .i64 stale, .int .i64 warm, .int .i64 expire, .int .i64 pref, .int .i64 longer, .slice AD deny.length cd, .int .i64 routes, .int .i64 queue] iv → W.cell? ⟨w.heap.size, 4, none⟩ = some (.int .i64 routers) ∧ W.cell? ⟨w.heap.size, 5, none⟩ = some (.int .i64 counts) ∧ W.cell? ⟨w.heap.size, 12, none⟩ = some (.int .i64 stale) := fun h => ⟨by simpa using h.conf.cell 4, by simpa using h.conf.cell 5, by simpa using h.conf.cell 12⟩
  by_cases hkr : (k : Int) < routers
  case pos =>
    have hku : k < up.length := by omega
    obtain ⟨r4, r5, r12⟩ := xr g6
    obtain ⟨gx, cx, rfl⟩ := own_form hu6 (by omega)
    have lx := lu gx rfl
    have nej : ¬ gx = jb := by omega
    have o7 := (setRow_blk hj6 #[.slice A0 up.length k0, .slice A1 cts.length k1, .slice A2 ks.length k2, .int .i64 refused]).2
    have j7 := (setRow_blk hj6 #[.slice A0 up.length k0, .slice A1 cts.length k1, .slice A2 ks.length k2, .int .i64 refused]).1
    have G7 := g6.only o7 (fun i hi => by subst hi; omega)
    have own7 := own_only hu6 o7 (fun i hi e => by have := lu i hi; omega)
    have oth7 := own_only hc6 o7 (fun i hi e => by have := lc i hi; omega)
    have o8 : Only (· = gx) (W6.setRow jb #[.slice A0 up.length k0, .slice A1 cts.length k1, .slice A2 ks.length k2, .int .i64 refused]) ((W6.setRow jb #[.slice A0 up.length k0, .slice A1 cts.length k1, .slice A2 ks.length k2, .int .i64 refused]).setCell ⟨gx, k, none⟩ (.bool false)) := (Only.refl (· = gx) _).setCell (p := ⟨gx, k, none⟩) (fun _ => rfl) _
    have j8 := j7.far (p := ⟨gx, k, none⟩) (fun e => nej e.symm) (.bool false)
    have G8 := G7.only o8 (fun i hi => by subst hi; omega)
    have own8 := (own7.stored (k) (.bool false)).1
    rw [← List.map_set] at own8
    have oth8 := own_only oth7 o8 (fun i hi e => by have := lc i hi; omega)
    have o9 : Only (· = jb) ((W6.setRow jb #[.slice A0 up.length k0, .slice A1 cts.length k1, .slice A2 ks.length k2, .int .i64 refused]).setCell ⟨gx, k, none⟩ (.bool false)) (((W6.setRow jb #[.slice A0 up.length k0, .slice A1 cts.length k1, .slice A2 ks.length k2, .int .i64 refused]).setCell ⟨gx, k, none⟩ (.bool false)).setCell ⟨jb, 0, none⟩ (.slice (some ⟨gx, 0, none⟩) up.length cx)) := (Only.refl (· = jb) _).setCell (p := ⟨jb, 0, none⟩) (fun _ => rfl) _
    have j9 := j8.set_ 0 (.slice (some ⟨gx, 0, none⟩) up.length cx)
    simp at j9
    have G9 := G8.only o9 (fun i hi => by subst hi; omega)
    have own9 := own_only own8 o9 (fun i hi e => by have := lu i hi; omega)
    have oth9 := own_only oth8 o9 (fun i hi e => by have := lc i hi; omega)
    have cx1 := own7.cellAt (k) (by omega)
    rw [List.getElem?_map, List.getElem?_eq_getElem hku, Option.map_some] at cx1
    have fx1 := own7.frozenAt (k)
    have cj1 := j8.cell 0
    simp at cj1
    have fj1 := j8.frozen 0
    have OWN := Lib.hid own9
    have OTH := Lib.hid oth9
    have J9 := Lib.hid j9
    have GG := Lib.hid G9
    clear own7 own8 own9 o7 o8 o9 j8 j9 G7 G8 G9 oth7 oth8 oth9
    go_wp2_with (first | (refine wpList_load_blk (by rfl) 38 (.tmp 4) rfl w.heap.size (by rfl) _ _ _ GG.out.conf Try.underlying38 rfl (by kernel_rfl) ?_) | (refine wpList_load_blk (by rfl) 41 (.tmp 5) rfl (w.heap.size + 1) (by rfl) _ _ _ g6.inp Try.underlying41 rfl (by kernel_rfl) ?_) | (refine wpList_load_blk (by rfl) 41 (.tmp 11) rfl jb (by rfl) _ _ _ J9.out Try.underlying41 rfl (by kernel_rfl) ?_) | (refine wpList_store_blk (by rfl) 41 (.tmp 11) (.tmp 53) rfl jb #[.slice A0 up.length k0, .slice A1 cts.length k1, .slice A2 ks.length k2, .int .i64 refused] (by rfl) (by rfl) 41 _ hj6 (by kernel_rfl) (by rfl) (inp_one _ _ _ _ _ _ _ _ _ _) ?_))
    refine (fresh_any2 _ _ _ _ _ _ _ _ _ _ _ _ _ _ _ _ _ _ _ _ _ _ _ _ _ _ _ _ _ _ (up.set k false) cts ks (fun _ => True) _ (by simp) (by simp) hnow hl0 hl1 hl2 (own_reads1 OWN.out) ((hr1.out.below GG.out.bel (fun _ _ h => h)).mono (fun _ _ _ => trivial)) ((hr2.out.below GG.out.bel (fun _ _ h => h)).mono (fun _ _ _ => trivial)) false (fresh_down hku (by omega))).mono ?_
    rintro e W1a ⟨rfl, hb⟩
    have ga := GG.out.below hb
    have ja := J9.out.below hb J9.out.lt
    have ca := own_only OTH.out (S := fun _ => False) (Only.of_below hb) (fun _ _ h => h)
    clear hb
    clear OWN OTH J9 GG j7 cx1 fx1 cj1 fj1
    obtain ⟨q4, q5, q12⟩ := xr ga
    by_cases hkc0 : (k : Int) < counts
    case neg =>
      go_wp2_with fail
      refine (gate_lives _).mono ?_
      rintro e W9 ⟨rfl, hb9⟩
      go_wp2_with fail
      go_ret
      exact ⟨rfl, ga.bel.trans (hb9.mono ga.bel.size)⟩
    by_cases hkn : stale < now
    case neg =>
      go_wp2_with fail
      refine (gate_lives _).mono ?_
      rintro e W9 ⟨rfl, hb9⟩
      go_wp2_with fail
      go_ret
      exact ⟨rfl, ga.bel.trans (hb9.mono ga.bel.size)⟩
    have hkc : k < cts.length := by omega
    obtain ⟨gx, cx, rfl⟩ := own_form ca (by omega)
    have lx := lc gx rfl
    have nej : ¬ gx = jb := by omega
    have o7 := (setRow_blk ja #[.slice A0 up.length k0, .slice A1 cts.length k1, .slice A2 ks.length k2, .int .i64 refused]).2
    have j7 := (setRow_blk ja #[.slice A0 up.length k0, .slice A1 cts.length k1, .slice A2 ks.length k2, .int .i64 refused]).1
    have G7 := ga.only o7 (fun i hi => by subst hi; omega)
    obtain ⟨_, _, s12⟩ := xr G7
    have own7 := own_only ca o7 (fun i hi e => by have := lc i hi; omega)
    have o8 : Only (· = gx) (W1a.setRow jb #[.slice A0 up.length k0, .slice A1 cts.length k1, .slice A2 ks.length k2, .int .i64 refused]) ((W1a.setRow jb #[.slice A0 up.length k0, .slice A1 cts.length k1, .slice A2 ks.length k2, .int .i64 refused]).setCell ⟨gx, k * 2, none⟩ (.int .i64 (now - stale - 1))) := (Only.refl (· = gx) _).setCell (p := ⟨gx, k * 2, none⟩) (fun _ => rfl) _
    have j8 := j7.far (p := ⟨gx, k * 2, none⟩) (fun e => nej e.symm) (.int .i64 (now - stale - 1))
    have G8 := G7.only o8 (fun i hi => by subst hi; omega)
    have own8 := (own7.stored (k * 2) (.int .i64 (now - stale - 1))).1
    rw [show (stampCells cts).set (k * 2) (.int .i64 (now - stale - 1)) = stampCells (cts.set k (now - stale - 1, cts[k].2)) from by rw [Nat.mul_comm, stampCells_set cts k hkc]] at own8
    have o9 : Only (· = jb) ((W1a.setRow jb #[.slice A0 up.length k0, .slice A1 cts.length k1, .slice A2 ks.length k2, .int .i64 refused]).setCell ⟨gx, k * 2, none⟩ (.int .i64 (now - stale - 1))) (((W1a.setRow jb #[.slice A0 up.length k0, .slice A1 cts.length k1, .slice A2 ks.length k2, .int .i64 refused]).setCell ⟨gx, k * 2, none⟩ (.int .i64 (now - stale - 1))).setCell ⟨jb, 1, none⟩ (.slice (some ⟨gx, 0, none⟩) cts.length cx)) := (Only.refl (· = jb) _).setCell (p := ⟨jb, 1, none⟩) (fun _ => rfl) _
    have j9 := j8.set_ 1 (.slice (some ⟨gx, 0, none⟩) cts.length cx)
    simp at j9
    have G9 := G8.only o9 (fun i hi => by subst hi; omega)
    have own9 := own_only own8 o9 (fun i hi e => by have := lc i hi; omega)
    have cx1 := own7.cellAt (k * 2) (by omega)
    rw [show k * 2 = 2 * k from Nat.mul_comm _ _, (stampCells_at cts k hkc).1] at cx1
    rw [show 2 * k = k * 2 from Nat.mul_comm _ _] at cx1
    have fx1 := own7.frozenAt (k * 2)
    have cj1 := j8.cell 1
    simp at cj1
    have fj1 := j8.frozen 1
    have OWN := Lib.hid own9
    have J9 := Lib.hid j9
    have GG := Lib.hid G9
    clear own7 own8 own9 o7 o8 o9 j8 j9 G7 G8 G9
    go_wp2_with (first | (refine wpList_load_blk (by rfl) 38 (.tmp 4) rfl w.heap.size (by rfl) _ _ _ GG.out.conf Try.underlying38 rfl (by kernel_rfl) ?_) | (refine wpList_load_blk (by rfl) 41 (.tmp 5) rfl (w.heap.size + 1) (by rfl) _ _ _ ga.inp Try.underlying41 rfl (by kernel_rfl) ?_) | (refine wpList_load_blk (by rfl) 41 (.tmp 11) rfl jb (by rfl) _ _ _ J9.out Try.underlying41 rfl (by kernel_rfl) ?_) | (refine wpList_store_blk (by rfl) 41 (.tmp 11) (.tmp 77) rfl jb #[.slice A0 up.length k0, .slice A1 cts.length k1, .slice A2 ks.length k2, .int .i64 refused] (by rfl) (by rfl) 41 _ ja (by kernel_rfl) (by rfl) (inp_one _ _ _ _ _ _ _ _ _ _) ?_))
    refine (fresh_any2 _ _ _ _ _ _ _ _ _ _ _ _ _ _ _ _ _ _ _ _ _ _ _ _ _ _ _ _ _ _ up (cts.set k (now - stale - 1, cts[k].2)) ks (fun _ => True) _ (by simp) (by simp) hnow hl0 hl1 hl2 ((hr0.out.below GG.out.bel (fun _ _ h => h)).mono (fun _ _ _ => trivial)) (own_reads1 OWN.out) ((hr2.out.below GG.out.bel (fun _ _ h => h)).mono (fun _ _ _ => trivial)) false (fresh_old hkc (by omega) _)).mono ?_
    rintro e W1z ⟨rfl, hb⟩
    have gz := GG.out.below hb
    have jz := J9.out.below hb J9.out.lt
    clear hb
    clear OWN J9 GG j7 cx1 fx1 cj1 fj1
    go_wp2_with fail
    refine (gate_lives _).mono ?_
    rintro e W9 ⟨rfl, hb9⟩
    go_wp2_with fail
    go_ret
    exact ⟨rfl, gz.bel.trans (hb9.mono gz.bel.size)⟩
  obtain ⟨r4, r5, r12⟩ := xr g6
  by_cases hkc0 : (k : Int) < counts
  case neg =>
    go_wp2_with fail
    refine (gate_lives _).mono ?_
    rintro e W9 ⟨rfl, hb9⟩
    go_wp2_with fail
    go_ret
    exact ⟨rfl, g6.bel.trans (hb9.mono g6.bel.size)⟩
  by_cases hkn : stale < now
  case neg =>
    go_wp2_with fail
    refine (gate_lives _).mono ?_
    rintro e W9 ⟨rfl, hb9⟩
    go_wp2_with fail
    go_ret
    exact ⟨rfl, g6.bel.trans (hb9.mono g6.bel.size)⟩
  have hkc : k < cts.length := by omega
  obtain ⟨gx, cx, rfl⟩ := own_form hc6 (by omega)
  have lx := lc gx rfl
  have nej : ¬ gx = jb := by omega
  have o7 := (setRow_blk hj6 #[.slice A0 up.length k0, .slice A1 cts.length k1, .slice A2 ks.length k2, .int .i64 refused]).2
  have j7 := (setRow_blk hj6 #[.slice A0 up.length k0, .slice A1 cts.length k1, .slice A2 ks.length k2, .int .i64 refused]).1
  have G7 := g6.only o7 (fun i hi => by subst hi; omega)
  obtain ⟨_, _, s12⟩ := xr G7
  have own7 := own_only hc6 o7 (fun i hi e => by have := lc i hi; omega)
  have o8 : Only (· = gx) (W6.setRow jb #[.slice A0 up.length k0, .slice A1 cts.length k1, .slice A2 ks.length k2, .int .i64 refused]) ((W6.setRow jb #[.slice A0 up.length k0, .slice A1 cts.length k1, .slice A2 ks.length k2, .int .i64 refused]).setCell ⟨gx, k * 2, none⟩ (.int .i64 (now - stale - 1))) := (Only.refl (· = gx) _).setCell (p := ⟨gx, k * 2, none⟩) (fun _ => rfl) _
  have j8 := j7.far (p := ⟨gx, k * 2, none⟩) (fun e => nej e.symm) (.int .i64 (now - stale - 1))
  have G8 := G7.only o8 (fun i hi => by subst hi; omega)
  have own8 := (own7.stored (k * 2) (.int .i64 (now - stale - 1))).1
  rw [show (stampCells cts).set (k * 2) (.int .i64 (now - stale - 1)) = stampCells (cts.set k (now - stale - 1, cts[k].2)) from by rw [Nat.mul_comm, stampCells_set cts k hkc]] at own8
  have o9 : Only (· = jb) ((W6.setRow jb #[.slice A0 up.length k0, .slice A1 cts.length k1, .slice A2 ks.length k2, .int .i64 refused]).setCell ⟨gx, k * 2, none⟩ (.int .i64 (now - stale - 1))) (((W6.setRow jb #[.slice A0 up.length k0, .slice A1 cts.length k1, .slice A2 ks.length k2, .int .i64 refused]).setCell ⟨gx, k * 2, none⟩ (.int .i64 (now - stale - 1))).setCell ⟨jb, 1, none⟩ (.slice (some ⟨gx, 0, none⟩) cts.length cx)) := (Only.refl (· = jb) _).setCell (p := ⟨jb, 1, none⟩) (fun _ => rfl) _
  have j9 := j8.set_ 1 (.slice (some ⟨gx, 0, none⟩) cts.length cx)
  simp at j9
  have G9 := G8.only o9 (fun i hi => by subst hi; omega)
  have own9 := own_only own8 o9 (fun i hi e => by have := lc i hi; omega)
  have cx1 := own7.cellAt (k * 2) (by omega)
  rw [show k * 2 = 2 * k from Nat.mul_comm _ _, (stampCells_at cts k hkc).1] at cx1
  rw [show 2 * k = k * 2 from Nat.mul_comm _ _] at cx1
  have fx1 := own7.frozenAt (k * 2)
  have cj1 := j8.cell 1
  simp at cj1
  have fj1 := j8.frozen 1
  have OWN := Lib.hid own9
  have J9 := Lib.hid j9
  have GG := Lib.hid G9
  clear own7 own8 own9 o7 o8 o9 j8 j9 G7 G8 G9
  go_wp2_with (first | (refine wpList_load_blk (by rfl) 38 (.tmp 4) rfl w.heap.size (by rfl) _ _ _ GG.out.conf Try.underlying38 rfl (by kernel_rfl) ?_) | (refine wpList_load_blk (by rfl) 41 (.tmp 5) rfl (w.heap.size + 1) (by rfl) _ _ _ g6.inp Try.underlying41 rfl (by kernel_rfl) ?_) | (refine wpList_load_blk (by rfl) 41 (.tmp 11) rfl jb (by rfl) _ _ _ J9.out Try.underlying41 rfl (by kernel_rfl) ?_) | (refine wpList_store_blk (by rfl) 41 (.tmp 11) (.tmp 77) rfl jb #[.slice A0 up.length k0, .slice A1 cts.length k1, .slice A2 ks.length k2, .int .i64 refused] (by rfl) (by rfl) 41 _ hj6 (by kernel_rfl) (by rfl) (inp_one _ _ _ _ _ _ _ _ _ _) ?_))
  refine (fresh_any2 _ _ _ _ _ _ _ _ _ _ _ _ _ _ _ _ _ _ _ _ _ _ _ _ _ _ _ _ _ _ up (cts.set k (now - stale - 1, cts[k].2)) ks (fun _ => True) _ (by simp) (by simp) hnow hl0 hl1 hl2 ((hr0.out.below GG.out.bel (fun _ _ h => h)).mono (fun _ _ _ => trivial)) (own_reads1 OWN.out) ((hr2.out.below GG.out.bel (fun _ _ h => h)).mono (fun _ _ _ => trivial)) false (fresh_old hkc (by omega) _)).mono ?_
  rintro e W1z ⟨rfl, hb⟩
  have gz := GG.out.below hb
  have jz := J9.out.below hb J9.out.lt
  clear hb
  clear OWN J9 GG j7 cx1 fx1 cj1 fj1
  go_wp2_with fail
  refine (gate_lives _).mono ?_
  rintro e W9 ⟨rfl, hb9⟩
  go_wp2_with fail
  go_ret
  exact ⟨rfl, gz.bel.trans (hb9.mono gz.bel.size)⟩

end Go.Proofs.Ytifiabhoeagblaa
