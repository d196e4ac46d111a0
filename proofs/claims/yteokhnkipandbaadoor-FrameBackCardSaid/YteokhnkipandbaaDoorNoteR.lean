/-
  Notes: the document's Get. No condition but that bytes read as data.
-/
import Derived.Test.YteokhnkipandbaaDoorNoteB
namespace Go.Proofs.YteokhnkipandbaaDoor
open Go.ChangeShapes Go.WideShapes Go.ChangeAt Go.RowKit

set_option maxHeartbeats 1000000 in
theorem rget_no (A : Option Addr) (c : Nat) (l : List UInt8) (F : Nat → Prop) (w : World) (hl : l.length ≤ 9223372036854775807) (hr : Reads w F A (l.map vb)) (hok : bodyOk l = false) :
    Calls Tryd.prog 66 #[.slice A l.length c] w fun e w' => e = .returned (.tuple #[.agg noteNone, .bool false]) ∧ Below w.heap.size w w' := by
  have hB1 := Blk.new w 68 noteNone
  have hB2 := hB1.setRow_ noteNone
  have hb2 := below_setRow ((Below.refl w.heap.size w).alloc (Nat.le_refl _) (.cells noteNone 68)) (g := w.heap.size) (Nat.le_refl _) noteNone
  unfold noteNone at hB1 hB2 hb2 ⊢
  by_cases h2 : (l.length : Int) < 2
  case pos =>
    clear hok hr
    go_enter Tryd.func66, Tryd.ntmps66
    go_wp2_with (refine wpList_store_blk (by rfl) 68 (.tmp 2) (.tmp 24) rfl w.heap.size #[.int .i64 0, .int .i64 0, .slice none 0 0] (by rfl) (by rfl) 68 _ hB1 (by kernel_rfl) (by rfl) (note_one _ _ _ _ _) ?_)
    refine bodyPost_ret (results_cell_tmp rfl _ _ _ 68 #[.int .i64 0, .int .i64 0, .slice none 0 0] (0, 0) _ (by simp) hB2 Tryd.underlying68 rfl (by kernel_rfl)) rfl ?_
    exact ⟨by simp, hb2⟩
  by_cases h7 : (4077 : Int) < (l.length : Int)
  case pos =>
    clear hok hr
    go_enter Tryd.func66, Tryd.ntmps66
    go_wp2_with (refine wpList_store_blk (by rfl) 68 (.tmp 2) (.tmp 24) rfl w.heap.size #[.int .i64 0, .int .i64 0, .slice none 0 0] (by rfl) (by rfl) 68 _ hB1 (by kernel_rfl) (by rfl) (note_one _ _ _ _ _) ?_)
    refine bodyPost_ret (results_cell_tmp rfl _ _ _ 68 #[.int .i64 0, .int .i64 0, .slice none 0 0] (0, 0) _ (by simp) hB2 Tryd.underlying68 rfl (by kernel_rfl)) rfl ?_
    exact ⟨by simp, hb2⟩
  obtain ⟨x, l', rfl⟩ : ∃ x l', l = x :: l' := by
    cases l with
    | nil => simp at h2
    | cons x l' => exact ⟨x, l', rfl⟩
  have hk : knownB x.toNat = false := by
    simp [bodyOk] at hok h2 h7 ⊢
    exact hok (by omega) (by omega)
  obtain ⟨b, off, rfl, _, hbl, hc⟩ := hr.at_ (k := 0) (by simp)
  simp only [List.getElem_map, List.getElem_cons_zero, vb, Nat.add_zero] at hc
  have hcA : (w.alloc (.cells #[.int .i64 0, .int .i64 0, .slice none 0 0] 68)).cell? ⟨b, off, none⟩ = some (.int .u8 x.toNat) := (World.cell?_of_block (w := w) (Below.heap_alloc w _ b hbl)).trans hc
  have hk' : (x.toNat : Int) < 1 ∨ 6 < (x.toNat : Int) := by
    simp [knownB] at hk
    omega
  have hx := x.toNat_lt
  have hL := Lib.hid (show (x :: l').length = l'.length + 1 from rfl)
  generalize (x :: l').length = L at *
  generalize x.toNat = xn at hc hcA hk' hx
  have e2 : IntKind.i64.wrap (xn : Int) = (xn : Int) := IntWalk.i64_in _ (by omega)
  clear hok hr hk
  rcases hk' with hk' | hk'
  all_goals
    go_enter Tryd.func66, Tryd.ntmps66
    go_wp2_with (refine wpList_store_blk (by rfl) 68 (.tmp 2) (.tmp 24) rfl w.heap.size #[.int .i64 0, .int .i64 0, .slice none 0 0] (by rfl) (by rfl) 68 _ hB1 (by kernel_rfl) (by rfl) (note_one _ _ _ _ _) ?_)
    refine bodyPost_ret (results_cell_tmp rfl _ _ _ 68 #[.int .i64 0, .int .i64 0, .slice none 0 0] (0, 0) _ (by simp) hB2 Tryd.underlying68 rfl (by kernel_rfl)) rfl ?_
    exact ⟨by simp, hb2⟩
set_option maxRecDepth 100000 in
set_option maxHeartbeats 8000000 in
theorem rget_ok_ (A : Option Addr) (c : Nat) (x y : UInt8) (d : List UInt8) (F : Nat → Prop) (w : World) (hl : d.length ≤ 4075) (hk : knownB x.toNat = true) (hr : Reads w F A ((x :: y :: d).map vb)) (L : Nat) (hL : L = d.length + 2) (hc : L ≤ c) :
    Calls Tryd.prog 66 #[.slice A L c] w fun e w' => ∃ v, e = .returned (.tuple #[.agg #[.int .i64 x.toNat, .int .i64 y.toNat, v], .bool true]) ∧ w'.ownsRow w.heap.size 5 1 v d.length (d.map vb) ∧ Below w.heap.size w w' := by
  have hB1 := Blk.new w 68 noteNone
  obtain ⟨b, off, rfl, hF, hbl, hc0⟩ := hr.at_ (k := 0) (by simp)
  obtain ⟨b', off', hbb, _, _, hc1⟩ := hr.at_ (k := 1) (by simp)
  injection hbb with hbb
  injection hbb with hb1 hb2
  subst hb1 hb2
  simp only [List.getElem_map, List.getElem_cons_zero, List.getElem_cons_succ, vb, Nat.add_zero] at hc0 hc1
  have hrd : Reads w F (cutA (some ⟨b, off, none⟩) c 2) (d.map vb) := by
    have := hr.cut (c := c) (by simp; omega) 2
    simpa using this
  have hcA : (w.alloc (.cells #[.int .i64 0, .int .i64 0, .slice none 0 0] 68)).cell? ⟨b, off, none⟩ = some (.int .u8 x.toNat) := (World.cell?_of_block (w := w) (Below.heap_alloc w _ b hbl)).trans hc0
  have hcB : (w.alloc (.cells #[.int .i64 0, .int .i64 0, .slice none 0 0] 68)).cell? ⟨b, off + 1, none⟩ = some (.int .u8 y.toNat) := (World.cell?_of_block (w := w) (Below.heap_alloc w _ b hbl)).trans hc1
  have hba := ((Below.refl w.heap.size w).alloc (Nat.le_refl _) (.cells noteNone 68))
  have hra := hrd.alloc (.cells noteNone 68)
  unfold noteNone at hB1 hba hra
  have hk' : (1 : Int) ≤ (x.toNat : Int) ∧ (x.toNat : Int) ≤ 6 := by simpa [knownB] using hk
  obtain ⟨hk1', hk6'⟩ := hk'
  have hx := x.toNat_lt
  have hy := y.toNat_lt
  generalize x.toNat = xn at *
  generalize y.toNat = yn at *
  have k0 : (0 : Int) < (L : Int) := by omega
  have k0n : 0 < L := by omega
  have k0m : ¬ L = 0 := by omega
  have k1 : (1 : Int) < (L : Int) := by omega
  have k2 : (2 : Int) ≤ (L : Int) := by omega
  have k3 : ¬ (L : Int) < 2 := by omega
  have k4 : ¬ (4077 : Int) < (L : Int) := by omega
  have e2 : IntKind.i64.wrap (xn : Int) = (xn : Int) := IntWalk.i64_in _ (by omega)
  have HL := Lib.hid hL
  clear hL
  have e3 : IntKind.i64.wrap (yn : Int) = (yn : Int) := IntWalk.i64_in _ (by omega)
  clear hr hk hrd
  obtain ⟨i0, hi, hz0, hz1, hz2⟩ := info_parts infoU8
  clear hc0 hc1
  have hfin : ∃ X Z, Reads (w.alloc (.cells #[.int .i64 0, .int .i64 0, .slice none 0 0] 68)) F X (d.map vb) ∧ ((c = 2 ∧ X = some ⟨b, off, none⟩ ∧ Z = 0) ∨ (¬ c = 2 ∧ X = some ⟨b, off + 2, none⟩ ∧ Z = c - 2)) := by
    refine ⟨_, c - 2, hra, ?_⟩
    unfold cutA
    by_cases h : c = 2
    · exact .inl ⟨h, by rw [if_pos h], by omega⟩
    · exact .inr ⟨h, by rw [if_neg h, Option.map_some, addr_add rfl], rfl⟩
  clear hra
  obtain ⟨X, Z, hra, hX⟩ := hfin
  have hdL : (d.map vb).length = (L - 2) * 1 := by have := HL.out; simp; omega
  have hne1 : ¬ b = w.heap.size := by omega
  have hne2 : ¬ w.heap.size = b := by omega
  have hE : ((w.alloc (.cells #[.int .i64 0, .int .i64 0, .slice none 0 0] 68)).alloc (.cells #[] 5)).drew.ownsRow (w.heap.size + 1) 5 1 (.slice (some ⟨w.heap.size + 1, 0, none⟩) 0 0) 0 [] := own_empty _ _ _ _ _ (Nat.le_refl _) (by
    have := heap_alloc_new (w.alloc (.cells #[.int .i64 0, .int .i64 0, .slice none 0 0] 68)) (.cells #[] 5)
    rw [World.size_alloc] at this
    exact this)
  have hRA : Reads ((w.alloc (.cells #[.int .i64 0, .int .i64 0, .slice none 0 0] 68)).alloc (.cells #[] 5)).drew F X (d.map vb) := hra.alloc _
  rcases hX with ⟨hX1, rfl, rfl⟩ | ⟨hX1, rfl, rfl⟩
  all_goals
    go_enter Tryd.func66, Tryd.ntmps66
    go_wp2_with fail
    go_region_held3 (fun w' => w'.cell? ⟨b, off, none⟩ = some (.int .u8 xn) ∧ w'.cell? ⟨b, off + 1, none⟩ = some (.int .u8 yn)) (first | go_keep | exact hk1)
      ((refine step_append_rd _ (by rfl) (.tmp 33) (.tmp 35) 59 (by rfl) (w.heap.size + 1) 5 i0 (.int .u8 0) 1 1 Tryd.underlying59 hi hz0 hz1 hz2 rfl (by omega) _ 0 [] (by rfl) hE F _ (L - 2) _ (d.map vb) (by rfl) hdL hRA (vb_one d) (by unfold maxLen; omega) (by omega) (by simp) ?_; intro v w1 hown hg hat; have hb : Below (w.heap.size + 1) (w.alloc (.cells #[.int .i64 0, .int .i64 0, .slice none 0 0] 68)) w1 := ((((Below.refl _ _).alloc (by simp) (.cells #[] 5)).drew).grown hg (by simp) (fun k hk => by simp [Value.ownBlock] at hk; omega)); have hk1 : w1.cell? ⟨b, off, none⟩ = some (.int .u8 xn) ∧ w1.cell? ⟨b, off + 1, none⟩ = some (.int .u8 yn) := ⟨(hb.cell (p := ⟨b, off, none⟩) (by simp; omega)).trans hcA, (hb.cell (p := ⟨b, off + 1, none⟩) (by simp; omega)).trans hcB⟩; have hM1 := hB1.below hb (by omega); obtain ⟨m0, m1, m2, f0, f1, f2⟩ := blk3 hM1; rw [Nat.zero_add, List.nil_append] at hown; obtain ⟨A1, c1, hv, -⟩ := own_reads hown; subst hv))
    obtain ⟨hM2, ho2⟩ := set3 hM1 (.int .i64 xn) (.int .i64 yn) (.slice A1 (L - 2) c1)
    have hown2 := own_mono (own_only hown ho2 (fun k hk e => by have := (hown.lt k hk).1; omega)) (show w.heap.size ≤ w.heap.size + 1 by omega)
    have hb2 : Below w.heap.size w _ := hba.trans ((hb.mono (by simp)).trans (ho2.below (by have := hM1.lt; omega) (fun i hi => by omega)))
    have HO := Lib.hid hown2
    have HB := Lib.hid hb2
    have HM := Lib.hid hM2
    clear hown hown2 hb2 hM2 hb ho2 hM1 hk1 m0 m1 m2 f0 f1 f2
    go_wp2_with fail
    refine bodyPost_ret (results_cell_tmp rfl _ _ _ 68 #[.int .i64 xn, .int .i64 yn, .slice A1 (L - 2) c1] (0, 0) _ (by simp) HM.out Tryd.underlying68 rfl (by kernel_rfl)) rfl ?_
    exact ⟨.slice A1 (L - 2) c1, by simp, by have := HO.out; rw [show d.length = L - 2 by have := HL.out; omega]; exact this, HB.out⟩
end Go.Proofs.YteokhnkipandbaaDoor
