/-
  Notes: known, Check, Put, Get, Same, and the document's: one contract each. No condition but that bytes read as data.
-/
import Derived.Test.YteokhnkipandbaaDoorSlices
namespace Go.Proofs.YteokhnkipandbaaDoor
open Go.ChangeShapes Go.WideShapes Go.ChangeAt Go.RowKit

theorem results_cell_tmp {P : Program} {fn : Func} {p q : Tmp} {ty : TypeId} (h : fn.results = #[.cell p ty, .tmp q]) (tmps : Array Value) (w : World) (g : Nat) (t : TypeId) (cs : Array Value) (fr : Nat × Nat) (d : TypeDesc)
    (hp : tmps.getD p undef = .pointer (some ⟨g, 0, none⟩)) (hg : w.heap[g]? = some (.cells cs t fr))
    (hu : P.underlying ty = some d) (hd : (match d with | .struct _ | .array _ _ => true | _ => false) = true) (hi : (P.info? ty).map (·.size) = some cs.size) :
    (results fn tmps).run P w = .ok (.tuple #[.agg cs, tmps.getD q undef]) w := by
  have hp' : tmps[p]?.getD undef = .pointer (some ⟨g, 0, none⟩) := by simpa using hp
  simp [results, h, hp', asAddr, run_loadVar_row w g t ty cs fr d hg hu hd hi]

theorem wpList_store_blk {P : Program} {ops : Array Oper} {rest : List Oper} {o : Oper} {a : Act} {w : World} {Q : Exit → Act → World → Prop} (hg : Region.wanted o (yielded ops a.tmps) = true) (ty : TypeId) (x y : Operand) (ho : o.op = .store ty x y)
    (g : Nat) (cells : Array Value) (hx : a.eval x = .pointer (some ⟨g, 0, none⟩)) (hy : a.eval y = .agg cells) (t : TypeId) (old : Array Value) (hb : Blk w g t old) (hi : (P.info? ty).map (·.size) = some cells.size)
    (hold : old.size = cells.size) (h1 : cells.all (·.oneCell') = true) (h : wpList P ops Q rest (a.put o.dst undef) (w.setRow g cells)) : wpList P ops Q (o :: rest) a w :=
  wpList_wanted hg fun _ hK => wp_store_row ty x y ho g cells hx hy t old hb hi hold h1 (hK _ _ h)
theorem Blk.setRow_ {w : World} {g : Nat} {t : TypeId} {old : Array Value} (h : Blk w g t old) (cs : Array Value) : Blk (w.setRow g cs) g t cs := setRow_heap w g old cs t (0, 0) h
theorem Blk.farRow {w : World} {g k : Nat} {t : TypeId} {cs : Array Value} (h : Blk w g t cs) (hk : g ≠ k) (x : Array Value) : Blk (w.setRow k x) g t cs := (setRow_other w k g x hk).trans h
theorem only_setRow (w : World) (g : Nat) (cs : Array Value) : Only (· = g) w (w.setRow g cs) := ⟨rfl, rfl, rfl, by simp, fun k _ hk => setRow_other w g k cs hk⟩
theorem reads_two (w : World) (F : Nat → Prop) (g : Nat) (t : TypeId) (a b : UInt8) (h : Blk w g t #[vb a, vb b]) (hF : F g) : Reads w F (some ⟨g, 0, none⟩) ([a, b].map vb) := by
  refine .inr ⟨g, 0, rfl, hF, h.lt, fun j u hj => ?_⟩
  have := h.cell (0 + j)
  rw [this]
  simp at hj ⊢
  exact hj

/-- a note as a value: its code, its subcode, where its data lie -/
structure NV where
  code : Int
  sub : Int
  A : Option Addr
  c : Nat
  d : List UInt8
def NV.cells (n : NV) : Array Value := #[.int .i64 n.code, .int .i64 n.sub, .slice n.A n.d.length n.c]
def NV.val (n : NV) : Value := .agg n.cells

/-- is there such a code? -/
def knownB (c : Int) : Bool := decide (1 ≤ c) && decide (c ≤ 6)
theorem known_any (c : Int) (w : World) : Calls Tryd.prog 122 #[.int .i64 c] w fun e w' => e = .returned (.bool (knownB c)) ∧ w = w' := by
  by_cases h1 : 1 ≤ c
  · by_cases h6 : c ≤ 6
    · have H := Lib.hid (show knownB c = true from by simp [knownB, h1, h6])
      go_enter Tryd.func122, Tryd.ntmps122
      go_wp2
      go_ret
      exact ⟨by rw [H.out]; rfl, rfl⟩
    · have H := Lib.hid (show knownB c = false from by simp [knownB, h6])
      go_enter Tryd.func122, Tryd.ntmps122
      go_wp2
      go_ret
      exact ⟨by rw [H.out]; rfl, rfl⟩
  · have H := Lib.hid (show knownB c = false from by simp [knownB, h1])
    go_enter Tryd.func122, Tryd.ntmps122
    go_wp2
    go_ret
    exact ⟨by rw [H.out]; rfl, rfl⟩

/-- may a note be? -/
def noteOk (n : NV) : Bool := knownB n.code && decide (0 ≤ n.sub) && decide (n.sub ≤ 255) && decide (n.d.length ≤ 4075)
/-- what is wrong with it: nothing, or ErrNote -/
def noteE (n : NV) : Int := if noteOk n then 0 else 80
theorem noteE_ok {n : NV} (h : noteOk n = true) : noteE n = 0 := if_pos h
theorem noteE_no {n : NV} (h : noteOk n = false) : noteE n = 80 := if_neg (by simp [h])

theorem check_any (n : NV) (w : World) (hl : n.d.length ≤ 9223372036854775807) : Calls Tryd.prog 70 #[n.val] w fun e w' => e = .returned (.int .i64 (noteE n)) ∧ Below w.heap.size w w' := by
  have hb := (Below.refl w.heap.size w).alloc (Nat.le_refl _) (.cells n.cells 68)
  cases hk : knownB n.code
  case false =>
    have H := Lib.hid (noteE_no (n := n) (by simp [noteOk, hk]))
    obtain ⟨code, sub, A, c, d⟩ := n
    simp only [NV.val, NV.cells] at hk H hb ⊢
    have HK := Lib.hid hk
    clear hk
    go_enter Tryd.func70, Tryd.ntmps70
    go_wp2_with fail
    refine (known_any _ _).mono ?_
    rintro e w' ⟨rfl, rfl⟩
    rw [HK.out]
    go_wp2_with fail
    go_ret
    exact ⟨by rw [H.out]; rfl, hb⟩
  by_cases h0 : n.sub < 0
  case pos =>
    have H := Lib.hid (noteE_no (n := n) (by simp [noteOk]; omega))
    obtain ⟨code, sub, A, c, d⟩ := n
    simp only [NV.val, NV.cells] at hk H hb h0 ⊢
    have HK := Lib.hid hk
    clear hk
    go_enter Tryd.func70, Tryd.ntmps70
    go_wp2_with fail
    refine (known_any _ _).mono ?_
    rintro e w' ⟨rfl, rfl⟩
    rw [HK.out]
    go_wp2_with fail
    go_ret
    exact ⟨by rw [H.out]; rfl, hb⟩
  by_cases h1 : 255 < n.sub
  case pos =>
    have H := Lib.hid (noteE_no (n := n) (by simp [noteOk]; omega))
    obtain ⟨code, sub, A, c, d⟩ := n
    simp only [NV.val, NV.cells] at hk H hb h0 h1 ⊢
    have HK := Lib.hid hk
    clear hk
    go_enter Tryd.func70, Tryd.ntmps70
    go_wp2_with fail
    refine (known_any _ _).mono ?_
    rintro e w' ⟨rfl, rfl⟩
    rw [HK.out]
    go_wp2_with fail
    go_ret
    exact ⟨by rw [H.out]; rfl, hb⟩
  by_cases h2 : (4075 : Int) < (n.d.length : Int)
  case pos =>
    have H := Lib.hid (noteE_no (n := n) (by simp [noteOk]; omega))
    obtain ⟨code, sub, A, c, d⟩ := n
    simp only [NV.val, NV.cells] at hk H hb h0 h1 h2 ⊢
    have HK := Lib.hid hk
    clear hk
    go_enter Tryd.func70, Tryd.ntmps70
    go_wp2_with fail
    refine (known_any _ _).mono ?_
    rintro e w' ⟨rfl, rfl⟩
    rw [HK.out]
    go_wp2_with fail
    go_ret
    exact ⟨by rw [H.out]; rfl, hb⟩
  have H := Lib.hid (noteE_ok (n := n) (by simp [noteOk, hk]; omega))
  obtain ⟨code, sub, A, c, d⟩ := n
  simp only [NV.val, NV.cells] at hk H hb h0 h1 h2 ⊢
  have HK := Lib.hid hk
  clear hk
  go_enter Tryd.func70, Tryd.ntmps70
  go_wp2_with fail
  refine (known_any _ _).mono ?_
  rintro e w' ⟨rfl, rfl⟩
  rw [HK.out]
  go_wp2_with fail
  go_ret
  exact ⟨by rw [H.out]; rfl, hb⟩

/-- a note's body -/
def NV.body (n : NV) : List UInt8 := UInt8.ofNat n.code.toNat :: UInt8.ofNat n.sub.toNat :: n.d
theorem vb_ofInt {n : Int} (h0 : 0 ≤ n) (h1 : n ≤ 255) : vb (UInt8.ofNat n.toNat) = .int .u8 n := by
  unfold vb
  rw [UInt8.toNat_ofNat']
  congr 1
  omega
theorem msg_one (k : Int) (A : Option Addr) (n c : Nat) : (#[Value.int .i64 k, .slice A n c] : Array Value).all (·.oneCell') = true := by simp [Value.oneCell']
def msgNone : Array Value := #[.int .i64 0, .slice none 0 0]
theorem put_no (n : NV) (w : World) (hl : n.d.length ≤ 9223372036854775807) (hok : noteOk n = false) :
    Calls Tryd.prog 68 #[n.val] w fun e w' => e = .returned (.tuple #[.agg msgNone, .int .i64 80]) ∧ Below w.heap.size w w' := by
  have hb0 := ((Below.refl w.heap.size w).alloc (Nat.le_refl _) (.cells n.cells 68)).alloc (by simp) (.cells msgNone 61)
  have hB0 := (Blk.new (w.alloc (.cells n.cells 68)) 61 msgNone)
  have hck := Lib.hid fun w1 => check_any n w1 hl
  have HE := Lib.hid (noteE_no hok)
  obtain ⟨code, sub, A, c, d⟩ := n
  simp only [NV.val, NV.cells, msgNone, World.size_alloc] at hck hb0 hB0 ⊢
  clear hok hl
  go_enter Tryd.func68, Tryd.ntmps68
  go_wp2_with fail
  refine (hck.out _).mono ?_
  rintro e w1 ⟨rfl, hb⟩
  rw [HE.out]
  have hB1 := hB0.below hb hB0.lt
  have hb1 := hb0.trans (hb.mono (by simp; omega))
  have hb2 := below_setRow hb1 (g := w.heap.size + 1) (by omega) #[.int .i64 0, .slice none 0 0]
  have hB2 := hB1.setRow_ #[.int .i64 0, .slice none 0 0]
  clear hb hb0 hb1 hB0
  go_wp2_with (refine wpList_store_blk (by rfl) 61 (.tmp 2) (.tmp 9) rfl (w.heap.size + 1) #[.int .i64 0, .slice none 0 0] (by rfl) (by rfl) 61 _ hB1 (by kernel_rfl) (by rfl) (msg_one _ _ _ _) ?_)
  refine bodyPost_ret (results_cell_tmp rfl _ _ _ 61 #[.int .i64 0, .slice none 0 0] (0, 0) _ (by simp) hB2 Tryd.underlying61 rfl (by kernel_rfl)) rfl ?_
  exact ⟨by simp, hb2⟩

theorem put_ok (n : NV) (w : World) (F : Nat → Prop) (hok : noteOk n = true) (hr : Reads w F n.A (n.d.map vb)) :
    Calls Tryd.prog 68 #[n.val] w fun e w' => ∃ v, e = .returned (.tuple #[.agg #[.int .i64 3, v], .int .i64 0]) ∧ w'.ownsRow w.heap.size 5 1 v n.body.length (n.body.map vb) ∧ Below w.heap.size w w' := by
  have hl : n.d.length ≤ 4075 := by simp [noteOk] at hok; omega
  have hck := Lib.hid fun w1 => check_any n w1 (by omega)
  have HE := Lib.hid (noteE_ok hok)
  have hb0 := ((Below.refl w.heap.size w).alloc (Nat.le_refl _) (.cells n.cells 68)).alloc (by simp) (.cells msgNone 61)
  have hM0 := (Blk.new (w.alloc (.cells n.cells 68)) 61 msgNone)
  have hN0 := (Blk.new w 68 n.cells).alloc (.cells msgNone 61)
  obtain ⟨code, sub, A, c, d⟩ := n
  simp only [NV.val, NV.cells, msgNone, World.size_alloc] at hck hb0 hM0 hN0 hr hl ⊢
  simp only [noteOk, knownB] at hok
  have h1 : 1 ≤ code ∧ code ≤ 6 ∧ 0 ≤ sub ∧ sub ≤ 255 := by simp at hok; omega
  obtain ⟨h1, h6, h0, h255⟩ := h1
  clear hok
  go_enter Tryd.func68, Tryd.ntmps68
  go_wp2_with fail
  refine (hck.out _).mono ?_
  rintro e w1 ⟨rfl, hb⟩
  rw [HE.out]
  have hM1 := hM0.below hb hM0.lt
  have hN1 := hN0.below hb hN0.lt
  have hb1 := hb0.trans (hb.mono (by simp; omega))
  have hr1 := (hr.mono (G := (· < w.heap.size)) (fun k hk _ => hk)).below hb1 (fun _ _ h => h)
  have hs1 : w.heap.size + 1 < w1.heap.size := hM1.lt
  clear hb hb0 hM0 hN0 hr
  have hc0 := hN1.cell 0
  have hc1 := hN1.cell 1
  have hc2 := hN1.cell 2
  simp at hc0 hc1 hc2
  have e1 : IntKind.u8.wrap code = code := IntWalk.u8_in _ (by omega)
  have e2 : IntKind.u8.wrap sub = sub := IntWalk.u8_in _ (by omega)
  have hN2 := hN1.alloc (.cells #[.int .u8 code, .int .u8 sub] 5)
  have hd2 := hN2.cell 2
  simp at hd2
  have hP2 := Blk.new w1 5 #[.int .u8 code, .int .u8 sub]
  have hP3 := hP2.alloc (.cells #[.slice (some ⟨w1.heap.size, 0, none⟩) 2 2, .slice A d.length c] 59)
  have hQ3 := Blk.new (w1.alloc (.cells #[.int .u8 code, .int .u8 sub] 5)) 59 #[.slice (some ⟨w1.heap.size, 0, none⟩) 2 2, .slice A d.length c]
  have hM3 := (hM1.alloc (.cells #[.int .u8 code, .int .u8 sub] 5)).alloc (.cells #[.slice (some ⟨w1.heap.size, 0, none⟩) 2 2, .slice A d.length c] 59)
  have hb3 := (hb1.alloc hb1.size (.cells #[.int .u8 code, .int .u8 sub] 5)).alloc (by simp; have := hb1.size; omega) (.cells #[.slice (some ⟨w1.heap.size, 0, none⟩) 2 2, .slice A d.length c] 59)
  have hr3 := (hr1.alloc (.cells #[.int .u8 code, .int .u8 sub] 5)).alloc (.cells #[.slice (some ⟨w1.heap.size, 0, none⟩) 2 2, .slice A d.length c] 59)
  simp only [World.size_alloc] at hQ3
  clear hN2 hP2 hr1 hN1 hM1
  rw [← vb_ofInt (by omega) (by omega : code ≤ 255), ← vb_ofInt h0 h255] at hP3
  have hcat := concat_u8 (some ⟨w1.heap.size + 1, 0, none⟩) 2 [⟨some ⟨w1.heap.size, 0, none⟩, 2, [UInt8.ofNat code.toNat, UInt8.ofNat sub.toNat]⟩, ⟨A, c, d⟩] (fun _ => True) ((w1.alloc (.cells #[.int .u8 code, .int .u8 sub] 5)).alloc (.cells #[.slice (some ⟨w1.heap.size, 0, none⟩) 2 2, .slice A d.length c] 59)) (by simp) (by simp [flat]; omega)
    (.inr ⟨w1.heap.size + 1, 0, rfl, trivial, hQ3.lt, fun j u hj => by
      rw [hQ3.cell (0 + j)]
      simp [BRow.cell] at hj ⊢
      exact hj⟩)
    (fun r hrm => by
      simp at hrm
      rcases hrm with rfl | rfl
      · rw [vb_ofInt (by omega) (by omega : code ≤ 255), vb_ofInt h0 h255] at hP3
        refine reads_two _ _ _ 5 _ _ ?_ trivial
        rw [vb_ofInt (by omega) (by omega : code ≤ 255), vb_ofInt h0 h255]
        exact hP3
      · exact hr3.mono (fun _ _ _ => trivial))
  have hfl : flat [⟨some ⟨w1.heap.size, 0, none⟩, 2, [UInt8.ofNat code.toNat, UInt8.ofNat sub.toNat]⟩, ⟨A, c, d⟩] = NV.body ⟨code, sub, A, c, d⟩ := by simp [flat, NV.body]
  rw [hfl] at hcat
  clear hP3 hQ3 hr3 hfl
  have HC := Lib.hid hcat
  clear hcat
  go_wp2_with fail
  refine HC.out.mono ?_
  rintro e w4 ⟨v, rfl, hown, hb4⟩
  have hM4 := hM3.below hb4 hM3.lt
  have hb5 := below_setRow (hb3.trans (hb4.mono hb3.size)) (g := w.heap.size + 1) (by omega) #[.int .i64 3, v]
  have hM5 := hM4.setRow_ #[.int .i64 3, v]
  have hsz3 := hM3.lt
  have hown5 := own_only hown (only_setRow w4 (w.heap.size + 1) #[.int .i64 3, v]) (fun k hk e => by have := (hown.lt k hk).1; omega)
  have hs3 := hb3.size
  have hown6 := own_mono hown5 hs3
  obtain ⟨A9, c9, hv, -⟩ := own_reads hown
  subst hv
  have HOWN := Lib.hid hown6
  clear hown hown5 hown6 hb3 hb4 hM3
  go_wp2_with (refine wpList_store_blk (by rfl) 61 (.tmp 2) (.tmp 22) rfl (w.heap.size + 1) #[.int .i64 3, .slice A9 (NV.body ⟨code, sub, A, c, d⟩).length c9] (by rfl) (by rfl) 61 _ hM4 (by kernel_rfl) (by rfl) (msg_one _ _ _ _) ?_)
  refine bodyPost_ret (results_cell_tmp rfl _ _ _ 61 #[.int .i64 3, .slice A9 (NV.body ⟨code, sub, A, c, d⟩).length c9] (0, 0) _ (by simp) hM5 Tryd.underlying61 rfl (by kernel_rfl)) rfl ?_
  exact ⟨_, by simp, HOWN.out, hb5⟩
end Go.Proofs.YteokhnkipandbaaDoor
