/-
  Notes: Get, the program's and the document's. No condition but that bytes read as data.
-/
import Derived.Test.YteokhnkipandbaaDoorNoteA
import Derived.Deep.RegionHeld3
import Derived.Deep.RegionWith
namespace Go.Proofs.YteokhnkipandbaaDoor
open Go.ChangeShapes Go.WideShapes Go.ChangeAt Go.RowKit

/-- is a body a note's? -/
def bodyOk (l : List UInt8) : Bool := decide (2 ≤ l.length) && decide (l.length ≤ 4077) && knownB (l.headD 0).toNat
def noteNone : Array Value := #[.int .i64 0, .int .i64 0, .slice none 0 0]
theorem note_one (a b : Int) (A : Option Addr) (n c : Nat) : (#[Value.int .i64 a, .int .i64 b, .slice A n c] : Array Value).all (·.oneCell') = true := by simp [Value.oneCell']

set_option maxHeartbeats 1000000 in
theorem get_no (A : Option Addr) (c : Nat) (l : List UInt8) (F : Nat → Prop) (w : World) (hl : l.length ≤ 9223372036854775807) (hr : Reads w F A (l.map vb)) (hok : bodyOk l = false) :
    Calls Tryd.prog 65 #[.slice A l.length c] w fun e w' => e = .returned (.tuple #[.agg noteNone, .int .i64 80]) ∧ Below w.heap.size w w' := by
  have hB1 := Blk.new w 68 noteNone
  have hB2 := hB1.setRow_ noteNone
  have hb2 := below_setRow ((Below.refl w.heap.size w).alloc (Nat.le_refl _) (.cells noteNone 68)) (g := w.heap.size) (Nat.le_refl _) noteNone
  unfold noteNone at hB1 hB2 hb2 ⊢
  by_cases h2 : (l.length : Int) < 2
  case pos =>
    clear hok hr
    go_enter Tryd.func65, Tryd.ntmps65
    go_wp2_with (refine wpList_store_blk (by rfl) 68 (.tmp 2) (.tmp 21) rfl w.heap.size #[.int .i64 0, .int .i64 0, .slice none 0 0] (by rfl) (by rfl) 68 _ hB1 (by kernel_rfl) (by rfl) (note_one _ _ _ _ _) ?_)
    refine bodyPost_ret (results_cell_tmp rfl _ _ _ 68 #[.int .i64 0, .int .i64 0, .slice none 0 0] (0, 0) _ (by simp) hB2 Tryd.underlying68 rfl (by kernel_rfl)) rfl ?_
    exact ⟨by simp, hb2⟩
  by_cases h7 : (4075 : Int) < (l.length : Int) - 2
  case pos =>
    clear hok hr
    have e1 : IntKind.i64.wrap ((l.length : Int) - 2) = (l.length : Int) - 2 := IntWalk.i64_in _ (by omega)
    go_enter Tryd.func65, Tryd.ntmps65
    go_wp2_with (refine wpList_store_blk (by rfl) 68 (.tmp 2) (.tmp 21) rfl w.heap.size #[.int .i64 0, .int .i64 0, .slice none 0 0] (by rfl) (by rfl) 68 _ hB1 (by kernel_rfl) (by rfl) (note_one _ _ _ _ _) ?_)
    refine bodyPost_ret (results_cell_tmp rfl _ _ _ 68 #[.int .i64 0, .int .i64 0, .slice none 0 0] (0, 0) _ (by simp) hB2 Tryd.underlying68 rfl (by kernel_rfl)) rfl ?_
    exact ⟨by simp, hb2⟩
  obtain ⟨x, l', rfl⟩ : ∃ x l', l = x :: l' := by
    cases l with
    | nil => simp at h2
    | cons x l' => exact ⟨x, l', rfl⟩
  have hk : knownB x.toNat = false := by
    simp [bodyOk] at hok h2 h7 ⊢
    exact hok (by omega) (by omega)
  obtain ⟨b, off, rfl, _, hbl, hc⟩ := hr.at_ (k := 0) (by simp)
  simp only [List.getElem_map, List.getElem_cons_zero, vb, Nat.add_zero] at hc
  have hcA : (w.alloc (.cells #[.int .i64 0, .int .i64 0, .slice none 0 0] 68)).cell? ⟨b, off, none⟩ = some (.int .u8 x.toNat) := (World.cell?_of_block (w := w) (Below.heap_alloc w _ b hbl)).trans hc
  have HK := Lib.hid hk
  have hx := x.toNat_lt
  have e1 : IntKind.i64.wrap (((x :: l').length : Int) - 2) = ((x :: l').length : Int) - 2 := IntWalk.i64_in _ (by omega)
  have hL := Lib.hid (show (x :: l').length = l'.length + 1 from rfl)
  generalize (x :: l').length = L at *
  generalize x.toNat = xn at hc hcA HK hx
  have e2 : IntKind.i64.wrap (xn : Int) = (xn : Int) := IntWalk.i64_in _ (by omega)
  clear hok hr hk
  go_enter Tryd.func65, Tryd.ntmps65
  go_wp2_with fail
  refine (known_any _ _).mono ?_
  rintro e w' ⟨rfl, rfl⟩
  rw [HK.out]
  go_wp2_with (refine wpList_store_blk (by rfl) 68 (.tmp 2) (.tmp 21) rfl w.heap.size #[.int .i64 0, .int .i64 0, .slice none 0 0] (by rfl) (by rfl) 68 _ hB1 (by kernel_rfl) (by rfl) (note_one _ _ _ _ _) ?_)
  refine bodyPost_ret (results_cell_tmp rfl _ _ _ 68 #[.int .i64 0, .int .i64 0, .slice none 0 0] (0, 0) _ (by simp) hB2 Tryd.underlying68 rfl (by kernel_rfl)) rfl ?_
  exact ⟨by simp, hb2⟩

theorem body_form {l : List UInt8} (h : bodyOk l = true) : ∃ x y d, l = x :: y :: d ∧ knownB x.toNat = true ∧ d.length ≤ 4075 := by
  match l, h with
  | [], h => simp [bodyOk] at h
  | [_], h => simp [bodyOk] at h
  | x :: y :: d, h =>
    simp [bodyOk] at h
    exact ⟨x, y, d, rfl, h.2, by omega⟩

theorem step_store_blk {P : Program} {ops : Array Oper} {o : Oper} {a : Act} {w : World} {K : Act → World → Prop} {Q : Exit → Act → World → Prop} {E : Prop} (hgd : o.guard = none) (ty : TypeId) (x y : Operand) (ho : o.op = .store ty x y)
    (g : Nat) (cells : Array Value) (hx : a.eval x = .pointer (some ⟨g, 0, none⟩)) (hy : a.eval y = .agg cells) (t : TypeId) (old : Array Value) (hb : Blk w g t old) (hi : (P.info? ty).map (·.size) = some cells.size)
    (hold : old.size = cells.size) (h1 : cells.all (·.oneCell') = true) (h : K (a.put o.dst undef) (w.setRow g cells)) :
    if Region.wanted o (yielded ops a.tmps) = true then Oper.wp P o a w K Q else E := by
  have hw : Region.wanted o (yielded ops a.tmps) = true := by simp [Region.wanted, hgd]
  rw [if_pos hw]
  exact wp_store_row ty x y ho g cells hx hy t old hb hi hold h1 h
theorem blk3 {w : World} {g : Nat} {t : TypeId} {a b c : Value} (h : Blk w g t #[a, b, c]) : w.cell? ⟨g, 0, none⟩ = some a ∧ w.cell? ⟨g, 1, none⟩ = some b ∧ w.cell? ⟨g, 2, none⟩ = some c ∧ w.frozen? ⟨g, 0, none⟩ = false ∧ w.frozen? ⟨g, 1, none⟩ = false ∧ w.frozen? ⟨g, 2, none⟩ = false :=
  ⟨by rw [h.cell 0]; rfl, by rw [h.cell 1]; rfl, by rw [h.cell 2]; rfl, h.frozen 0, h.frozen 1, h.frozen 2⟩
theorem set3 {w : World} {g : Nat} {t : TypeId} {a0 b0 c0 : Value} (h : Blk w g t #[a0, b0, c0]) (a b c : Value) : Blk (((w.setCell ⟨g, 0, none⟩ a).setCell ⟨g, 1, none⟩ b).setCell ⟨g, 2, none⟩ c) g t #[a, b, c] ∧ Only (· = g) w (((w.setCell ⟨g, 0, none⟩ a).setCell ⟨g, 1, none⟩ b).setCell ⟨g, 2, none⟩ c) := by
  refine ⟨?_, (((Only.refl (· = g) w).setCell (p := ⟨g, 0, none⟩) (fun _ => rfl) a).setCell (p := ⟨g, 1, none⟩) (fun _ => rfl) b).setCell (p := ⟨g, 2, none⟩) (fun _ => rfl) c⟩
  have := ((h.set_ 0 a).set_ 1 b).set_ 2 c
  simpa using this
set_option maxRecDepth 100000 in
set_option maxHeartbeats 8000000 in
theorem get_ok_ (A : Option Addr) (c : Nat) (x y : UInt8) (d : List UInt8) (F : Nat → Prop) (w : World) (hl : d.length ≤ 4075) (hk : knownB x.toNat = true) (hr : Reads w F A ((x :: y :: d).map vb)) (L : Nat) (hL : L = d.length + 2) (hc : L ≤ c) :
    Calls Tryd.prog 65 #[.slice A L c] w fun e w' => ∃ v, e = .returned (.tuple #[.agg #[.int .i64 x.toNat, .int .i64 y.toNat, v], .int .i64 0]) ∧ w'.ownsRow w.heap.size 5 1 v d.length (d.map vb) ∧ Below w.heap.size w w' := by
  have hB1 := Blk.new w 68 noteNone
  obtain ⟨b, off, rfl, hF, hbl, hc0⟩ := hr.at_ (k := 0) (by simp)
  obtain ⟨b', off', hbb, _, _, hc1⟩ := hr.at_ (k := 1) (by simp)
  injection hbb with hbb
  injection hbb with hb1 hb2
  subst hb1 hb2
  simp only [List.getElem_map, List.getElem_cons_zero, List.getElem_cons_succ, vb, Nat.add_zero] at hc0 hc1
  have hrd : Reads w F (cutA (some ⟨b, off, none⟩) c 2) (d.map vb) := by
    have := hr.cut (c := c) (by simp; omega) 2
    simpa using this
  have hcA : (w.alloc (.cells #[.int .i64 0, .int .i64 0, .slice none 0 0] 68)).cell? ⟨b, off, none⟩ = some (.int .u8 x.toNat) := (World.cell?_of_block (w := w) (Below.heap_alloc w _ b hbl)).trans hc0
  have hcB : (w.alloc (.cells #[.int .i64 0, .int .i64 0, .slice none 0 0] 68)).cell? ⟨b, off + 1, none⟩ = some (.int .u8 y.toNat) := (World.cell?_of_block (w := w) (Below.heap_alloc w _ b hbl)).trans hc1
  have hba := ((Below.refl w.heap.size w).alloc (Nat.le_refl _) (.cells noteNone 68))
  have hra := hrd.alloc (.cells noteNone 68)
  unfold noteNone at hB1 hba hra
  have HK := Lib.hid hk
  have hx := x.toNat_lt
  have hy := y.toNat_lt
  generalize x.toNat = xn at *
  generalize y.toNat = yn at *
  have e1 : IntKind.i64.wrap ((L : Int) - 2) = (L : Int) - 2 := IntWalk.i64_in _ (by omega)
  have k0 : (0 : Int) < (L : Int) := by omega
  have k0n : 0 < L := by omega
  have k0m : ¬ L = 0 := by omega
  have k1 : (1 : Int) < (L : Int) := by omega
  have k2 : (2 : Int) ≤ (L : Int) := by omega
  have k3 : ¬ (L : Int) < 2 := by omega
  have k4 : ¬ (4075 : Int) < (L : Int) - 2 := by omega
  have e2 : IntKind.i64.wrap (xn : Int) = (xn : Int) := IntWalk.i64_in _ (by omega)
  have HL := Lib.hid hL
  clear hL
  have e3 : IntKind.i64.wrap (yn : Int) = (yn : Int) := IntWalk.i64_in _ (by omega)
  clear hr hk hrd
  have hcl := fun W => clone_u8 (cutA (some ⟨b, off, none⟩) c 2) (c - 2) d F W (by omega)
  rw [show d.length = L - 2 by have := HL.out; omega] at hcl
  clear hc0 hc1
  have hfin : ∃ X Z, Hid (∀ W, Reads W F X (d.map vb) → Calls Tryd.prog 98 #[.slice X (L - 2) Z] W fun e w' => ∃ v, e = .returned v ∧ w'.ownsRow W.heap.size 5 1 v (L - 2) (d.map vb) ∧ Below W.heap.size W w') ∧ Reads (w.alloc (.cells #[.int .i64 0, .int .i64 0, .slice none 0 0] 68)) F X (d.map vb) ∧ ((c = 2 ∧ X = some ⟨b, off, none⟩ ∧ Z = 0) ∨ (¬ c = 2 ∧ X = some ⟨b, off + 2, none⟩ ∧ Z = c - 2)) := by
    refine ⟨_, _, Lib.hid hcl, hra, ?_⟩
    unfold cutA
    by_cases h : c = 2
    · exact .inl ⟨h, by rw [if_pos h], by omega⟩
    · exact .inr ⟨h, by rw [if_neg h, Option.map_some, addr_add rfl], rfl⟩
  clear hcl hra
  obtain ⟨X, Z, hcl, hra, hX⟩ := hfin
  have hne1 : ¬ b = w.heap.size := by omega
  have hne2 : ¬ w.heap.size = b := by omega
  rcases hX with ⟨hX1, rfl, rfl⟩ | ⟨hX1, rfl, rfl⟩
  all_goals
    go_enter Tryd.func65, Tryd.ntmps65
    go_wp2_with fail
    refine (known_any _ _).mono ?_
    rintro e w' ⟨rfl, rfl⟩
    rw [HK.out]
    go_wp2_with fail
    go_region_held3 (fun w' => w'.cell? ⟨b, off, none⟩ = some (.int .u8 xn) ∧ w'.cell? ⟨b, off + 1, none⟩ = some (.int .u8 yn)) (first | go_keep | exact hk1)
      ((go_at_call 98; refine (hcl.out _ (by exact hra)).mono ?_; rintro e w1 ⟨v, rfl, hown, hb⟩; have hk1 : w1.cell? ⟨b, off, none⟩ = some (.int .u8 xn) ∧ w1.cell? ⟨b, off + 1, none⟩ = some (.int .u8 yn) := ⟨(hb.cell (p := ⟨b, off, none⟩) (by simp; omega)).trans hcA, (hb.cell (p := ⟨b, off + 1, none⟩) (by simp; omega)).trans hcB⟩; have hM1 := hB1.drew.below hb (show w.heap.size < _ from hB1.lt); obtain ⟨m0, m1, m2, f0, f1, f2⟩ := blk3 hM1; obtain ⟨A1, c1, hv, -⟩ := own_reads hown; subst hv))
    obtain ⟨hM2, ho2⟩ := set3 hM1 (.int .i64 xn) (.int .i64 yn) (.slice A1 (L - 2) c1)
    have hown2 := own_mono (own_only hown ho2 (fun k hk e => by have := (hown.lt k hk).1; simp at this; omega)) (show w.heap.size ≤ _ by simp)
    have hb2 : Below w.heap.size w _ := (hba.trans (Below.drew (Below.refl _ _))).trans ((hb.mono (by simp)).trans (ho2.below (by have := hM1.lt; omega) (fun i hi => by omega)))
    have HO := Lib.hid hown2
    have HB := Lib.hid hb2
    have HM := Lib.hid hM2
    clear hown hown2 hb2 hM2 hb ho2 hM1 hk1 m0 m1 m2 f0 f1 f2
    go_wp2_with fail
    refine bodyPost_ret (results_cell_tmp rfl _ _ _ 68 #[.int .i64 xn, .int .i64 yn, .slice A1 (L - 2) c1] (0, 0) _ (by simp) HM.out Tryd.underlying68 rfl (by kernel_rfl)) rfl ?_
    exact ⟨.slice A1 (L - 2) c1, by simp, by have := HO.out; rw [show d.length = L - 2 by have := HL.out; omega]; exact this, HB.out⟩
end Go.Proofs.YteokhnkipandbaaDoor
