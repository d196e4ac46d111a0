/-
  What routers say of themselves: what a body says, or what is wrong with it. Under: the body reads as bytes.
-/
import Derived.Test.YtbmbpcibihddaaaDoorOpK
namespace Go.Proofs.YtbmbpcibihddaaaDoor
open Go.ChangeShapes Go.WideShapes Go.ChangeAt Go.RowKit

/-- what a body says, or the subcode of what is wrong with it -/
def openL (b : List UInt8) : Said :=
  if b.head? = some 4 then
    (if 10 ≤ b.length ∧ (b.getD 9 0).toNat = b.length - 10 then
      (match eachL parS ⟨ofBe ((b.drop 1).take 2), ofBe ((b.drop 3).take 2), ofBe ((b.drop 5).take 4), false, 0⟩ (b.drop 10) with
        | .inl s => .inl s
        | .inr o => if 0 ≤ o.fault then .inl o.fault else .inr o)
    else .inl 0)
  else .inl 1
/-- what Get owes -/
structure GetEnd (w : World) (b : List UInt8) (r : Said) (e : Ending) (w' : World) : Prop where
  bel : Below w.heap.size w w'
  no : ∀ s, r = .inl s → ∃ A c, ∃ d : List UInt8, e = .returned (refused s A d.length c) ∧ Reads w' (fun _ => True) A (d.map vb) ∧ d.length ≤ 2 ∧ (¬ b.head? = some 4 → d = [0, 4])
  yes : ∀ o, r = .inr o → e = .returned (.tuple #[.agg o.cells, .agg #[.int .i64 0, .int .i64 0, .slice none 0 0]])

section
variable {w : World}
/-- the two result cells -/
theorem get_cells (w : World) : Blk ((w.alloc (.cells #[.int .i64 0, .int .i64 0, .int .u32 0, .bool false, .int .i64 0] 24)).alloc (.cells #[.int .i64 0, .int .i64 0, .slice none 0 0] 37)) w.heap.size 24 #[.int .i64 0, .int .i64 0, .int .u32 0, .bool false, .int .i64 0] ∧
    Blk ((w.alloc (.cells #[.int .i64 0, .int .i64 0, .int .u32 0, .bool false, .int .i64 0] 24)).alloc (.cells #[.int .i64 0, .int .i64 0, .slice none 0 0] 37)) (w.heap.size + 1) 37 #[.int .i64 0, .int .i64 0, .slice none 0 0] ∧ Below w.heap.size w ((w.alloc (.cells #[.int .i64 0, .int .i64 0, .int .u32 0, .bool false, .int .i64 0] 24)).alloc (.cells #[.int .i64 0, .int .i64 0, .slice none 0 0] 37)) :=
  ⟨(Blk.new w _ _).alloc _, Blk.new1 w _ _ _, below_a2 w _ _⟩

set_option maxRecDepth 10000 in
set_option maxHeartbeats 4000000 in
theorem get_ver (A : Option Addr) (cap : Nat) (b : List UInt8) (F : Nat → Prop) (hl : b.length ≤ 9223372036854775807) (hr : Reads w F A (b.map vb)) (hb4 : ¬ b.head? = some 4) :
    Calls Tryd.prog 12 #[.slice A b.length cap] w (GetEnd w b (.inl 1)) := by
  obtain ⟨hM, hN, hb2⟩ := get_cells w
  obtain ⟨w2, hw2⟩ : ∃ w2, (w.alloc (.cells #[.int .i64 0, .int .i64 0, .int .u32 0, .bool false, .int .i64 0] 24)).alloc (.cells #[.int .i64 0, .int .i64 0, .slice none 0 0] 37) = w2 := ⟨_, rfl⟩
  have hs2 : w2.heap.size = w.heap.size + 2 := by rw [← hw2]; simp
  have HS2 := Lib.hid hs2
  rw [hw2] at hM hN hb2
  have HW2 := Lib.hid hw2
  have HMF := Lib.hid fun W (h : Below w2.heap.size w2 W) => hM.below h hM.lt
  have HNF := Lib.hid fun W (h : Below w2.heap.size w2 W) => hN.below h hN.lt
  have HR2 := Lib.hid (hr.mono (G := (· < w.heap.size)) (fun k hk _ => hk))
  have HB2 := Lib.hid hb2
  have HRF := Lib.hid (show Calls Tryd.prog 33 #[.int .i64 1, .slice (some ⟨w.heap.size + 1 + 1, 0, none⟩) 2 2] (w2.alloc (.cells #[.int .u8 0, .int .u8 4] 5)) (fun e w' => ∃ A' c', e = .returned (refused 1 A' 2 c') ∧ Reads w' (fun k => (w2.alloc (.cells #[.int .u8 0, .int .u8 4] 5)).heap.size ≤ k) A' (([0, 4] : List UInt8).map vb) ∧ Below (w2.alloc (.cells #[.int .u8 0, .int .u8 4] 5)).heap.size (w2.alloc (.cells #[.int .u8 0, .int .u8 4] 5)) w') from
    refuse_any 1 (some ⟨w.heap.size + 1 + 1, 0, none⟩) 2 [0, 4] (fun _ => True) (w2.alloc (.cells #[.int .u8 0, .int .u8 4] 5)) (by simp) (by
      have h := (reads_of_blk (Blk.new w2 5 #[.int .u8 0, .int .u8 4])).mono (G := fun _ => True) (fun _ _ _ => trivial)
      rw [hs2] at h
      exact h))
  clear hM hN hb2 hr hs2 hw2
  have fin : ∀ (e : Ending) (W : World), (∃ A c, e = .returned (refused 1 A 2 c) ∧ Reads W (fun _ => True) A (([0, 4] : List UInt8).map vb)) → Below w.heap.size w W → GetEnd w b (.inl 1) e W := fun e W h hb => by
    obtain ⟨A, c, he, hr⟩ := h
    exact ⟨hb, fun s hs => by cases hs; exact ⟨A, c, [0, 4], he, hr, by simp, fun _ => rfl⟩, fun o ho => by cases ho⟩
  have FIN := Lib.hid fin
  clear fin
  cases b with
  | nil =>
    go_enter Tryd.func12, Tryd.ntmps12
    go_wp2_with fail
    rw [HW2.out]
    refine HRF.out.mono ?_
    rintro e w9 ⟨A9, c9, rfl, hr9, hb9⟩
    have HB9 := Lib.hid (show Below w2.heap.size w2 w9 from (below_a1 w2 _).trans (hb9.mono (by simp)))
    have HBW := Lib.hid (HB2.out.trans (HB9.out.mono HB2.out.size))
    have HR9 := Lib.hid (show Reads w9 (fun k => w.heap.size + 2 ≤ k) A9 (([0, 4] : List UInt8).map vb) from hr9.mono (fun k _ h => by have := HS2.out; simp at h; omega))
    clear hb9 hr9
    have hM9 := HMF.out w9 HB9.out
    have hN9 := HNF.out w9 HB9.out
    have hlt9 : w.heap.size + 2 ≤ w9.heap.size := hN9.lt
    have hM10 := hM9.setRow_ #[.int .i64 0, .int .i64 0, .int .u32 0, .bool false, .int .i64 0]
    have hN10 := hN9.farRow (k := w.heap.size) (by omega) #[.int .i64 0, .int .i64 0, .int .u32 0, .bool false, .int .i64 0]
    have hM11 := Lib.hid (hM10.farRow (k := w.heap.size + 1) (by omega) #[.int .i64 2, .int .i64 1, .slice A9 2 c9])
    have hN11 := Lib.hid (hN10.setRow_ #[.int .i64 2, .int .i64 1, .slice A9 2 c9])
    have hB11 := below_setRow (below_setRow HBW.out (g := w.heap.size) (Nat.le_refl _) #[.int .i64 0, .int .i64 0, .int .u32 0, .bool false, .int .i64 0]) (g := w.heap.size + 1) (by omega) #[.int .i64 2, .int .i64 1, .slice A9 2 c9]
    have HRD := Lib.hid (show Reads ((w9.setRow w.heap.size #[.int .i64 0, .int .i64 0, .int .u32 0, .bool false, .int .i64 0]).setRow (w.heap.size + 1) #[.int .i64 2, .int .i64 1, .slice A9 2 c9]) (fun _ => True) A9 (([0, 4] : List UInt8).map vb) from by
      have h1 := HR9.out.only (only_setRow w9 w.heap.size #[.int .i64 0, .int .i64 0, .int .u32 0, .bool false, .int .i64 0]) (fun b _ h e => by omega)
      exact (h1.only (only_setRow _ (w.heap.size + 1) #[.int .i64 2, .int .i64 1, .slice A9 2 c9]) (fun b _ h e => by omega)).mono (fun b _ h => trivial))
    clear hM10
    unfold refused ozero OV.cells
    go_wp2_with (first | (refine wpList_store_blk (by rfl) 24 (.tmp 2) (.tmp 18) rfl w.heap.size #[.int .i64 0, .int .i64 0, .int .u32 0, .bool false, .int .i64 0] (by rfl) (by rfl) 24 _ hM9 (by kernel_rfl) (by rfl) (ov_one _ _ _ _ _) ?_) |
      (refine wpList_store_blk (by rfl) 37 (.tmp 3) (.tmp 19) rfl (w.heap.size + 1) #[.int .i64 2, .int .i64 1, .slice A9 2 c9] (by rfl) (by rfl) 37 _ hN10 (by kernel_rfl) (by rfl) (note_one _ _ _ _ _) ?_))
    refine bodyPost_ret (results_cell_cell rfl _ _ _ _ 24 37 #[.int .i64 0, .int .i64 0, .int .u32 0, .bool false, .int .i64 0] #[.int .i64 2, .int .i64 1, .slice A9 2 c9] (0, 0) (0, 0) _ _ (by simp [Act.put]) (by simp [Act.put]) hM11.out hN11.out Tryd.underlying24 rfl (by kernel_rfl) Tryd.underlying37 rfl (by kernel_rfl)) rfl ?_
    exact FIN.out _ _ ⟨A9, c9, rfl, HRD.out⟩ hB11
  | cons x xs =>
    have hx : x ≠ 4 := fun e => hb4 (by rw [e]; rfl)
    obtain ⟨bk, off, rfl, hbk, hbl, hc⟩ := HR2.out.at_ (k := 0) (by simp)
    have hc0 := (HB2.out.cell (p := ⟨bk, off + 0, none⟩) hbl).trans hc
    simp only [List.map_cons, List.getElem_cons_zero, vb] at hc0
    have hne := (show ¬ (x.toNat : Int) = 4 from fun e => hx (UInt8.toNat_inj.1 (show x.toNat = (4 : UInt8).toNat from by have h4 : (4 : UInt8).toNat = 4 := rfl; omega)))
    have HC0 := Lib.hid hc0
    have hc1 : ((w.alloc (.cells #[.int .i64 0, .int .i64 0, .int .u32 0, .bool false, .int .i64 0] 24)).alloc (.cells #[.int .i64 0, .int .i64 0, .slice none 0 0] 37)).cell? ⟨bk, off, none⟩ = some (.int .u8 x.toNat) := by rw [HW2.out]; exact hc0
    have hlp : ((((x :: xs).length : Nat) : Int) == 0) = false := by rw [beq_eq_false_iff_ne]; simp <;> omega
    have hlq : (0 : Int) < ((x :: xs).length : Int) := by simp <;> omega
    have hnb : ((x.toNat : Int) != 4) = true := by rw [bne_iff_ne]; exact hne
    clear hc hc0 hb4 hx
    generalize x.toNat = xn at *
    generalize (x :: xs).length = ln at *
    go_enter Tryd.func12, Tryd.ntmps12
    go_wp2_with fail
    rw [HW2.out]
    refine HRF.out.mono ?_
    rintro e w9 ⟨A9, c9, rfl, hr9, hb9⟩
    have HB9 := Lib.hid (show Below w2.heap.size w2 w9 from (below_a1 w2 _).trans (hb9.mono (by simp)))
    have HBW := Lib.hid (HB2.out.trans (HB9.out.mono HB2.out.size))
    have HR9 := Lib.hid (show Reads w9 (fun k => w.heap.size + 2 ≤ k) A9 (([0, 4] : List UInt8).map vb) from hr9.mono (fun k _ h => by have := HS2.out; simp at h; omega))
    clear hb9 hr9 hc1
    have hM9 := HMF.out w9 HB9.out
    have hN9 := HNF.out w9 HB9.out
    have hlt9 : w.heap.size + 2 ≤ w9.heap.size := hN9.lt
    have hM10 := hM9.setRow_ #[.int .i64 0, .int .i64 0, .int .u32 0, .bool false, .int .i64 0]
    have hN10 := hN9.farRow (k := w.heap.size) (by omega) #[.int .i64 0, .int .i64 0, .int .u32 0, .bool false, .int .i64 0]
    have hM11 := Lib.hid (hM10.farRow (k := w.heap.size + 1) (by omega) #[.int .i64 2, .int .i64 1, .slice A9 2 c9])
    have hN11 := Lib.hid (hN10.setRow_ #[.int .i64 2, .int .i64 1, .slice A9 2 c9])
    have hB11 := below_setRow (below_setRow HBW.out (g := w.heap.size) (Nat.le_refl _) #[.int .i64 0, .int .i64 0, .int .u32 0, .bool false, .int .i64 0]) (g := w.heap.size + 1) (by omega) #[.int .i64 2, .int .i64 1, .slice A9 2 c9]
    have HRD := Lib.hid (show Reads ((w9.setRow w.heap.size #[.int .i64 0, .int .i64 0, .int .u32 0, .bool false, .int .i64 0]).setRow (w.heap.size + 1) #[.int .i64 2, .int .i64 1, .slice A9 2 c9]) (fun _ => True) A9 (([0, 4] : List UInt8).map vb) from by
      have h1 := HR9.out.only (only_setRow w9 w.heap.size #[.int .i64 0, .int .i64 0, .int .u32 0, .bool false, .int .i64 0]) (fun b _ h e => by omega)
      exact (h1.only (only_setRow _ (w.heap.size + 1) #[.int .i64 2, .int .i64 1, .slice A9 2 c9]) (fun b _ h e => by omega)).mono (fun b _ h => trivial))
    clear hM10
    unfold refused ozero OV.cells
    go_wp2_with (first | (refine wpList_store_blk (by rfl) 24 (.tmp 2) (.tmp 18) rfl w.heap.size #[.int .i64 0, .int .i64 0, .int .u32 0, .bool false, .int .i64 0] (by rfl) (by rfl) 24 _ hM9 (by kernel_rfl) (by rfl) (ov_one _ _ _ _ _) ?_) |
      (refine wpList_store_blk (by rfl) 37 (.tmp 3) (.tmp 19) rfl (w.heap.size + 1) #[.int .i64 2, .int .i64 1, .slice A9 2 c9] (by rfl) (by rfl) 37 _ hN10 (by kernel_rfl) (by rfl) (note_one _ _ _ _ _) ?_))
    refine bodyPost_ret (results_cell_cell rfl _ _ _ _ 24 37 #[.int .i64 0, .int .i64 0, .int .u32 0, .bool false, .int .i64 0] #[.int .i64 2, .int .i64 1, .slice A9 2 c9] (0, 0) (0, 0) _ _ (by simp [Act.put]) (by simp [Act.put]) hM11.out hN11.out Tryd.underlying24 rfl (by kernel_rfl) Tryd.underlying37 rfl (by kernel_rfl)) rfl ?_
    exact FIN.out _ _ ⟨A9, c9, rfl, HRD.out⟩ hB11

set_option maxRecDepth 10000 in
set_option maxHeartbeats 4000000 in
theorem get_len (A : Option Addr) (cap : Nat) (b : List UInt8) (F : Nat → Prop) (hl : b.length ≤ 1000000) (hr : Reads w F A (b.map vb)) (hb4 : b.head? = some 4) (hbn : ¬ (10 ≤ b.length ∧ (b.getD 9 0).toNat = b.length - 10)) :
    Calls Tryd.prog 12 #[.slice A b.length cap] w (GetEnd w b (.inl 0)) := by
  obtain ⟨hM, hN, hb2⟩ := get_cells w
  obtain ⟨w2, hw2⟩ : ∃ w2, (w.alloc (.cells #[.int .i64 0, .int .i64 0, .int .u32 0, .bool false, .int .i64 0] 24)).alloc (.cells #[.int .i64 0, .int .i64 0, .slice none 0 0] 37) = w2 := ⟨_, rfl⟩
  have hs2 : w2.heap.size = w.heap.size + 2 := by rw [← hw2]; simp
  have HS2 := Lib.hid hs2
  rw [hw2] at hM hN hb2
  have HW2 := Lib.hid hw2
  have HMF := Lib.hid fun W (h : Below w2.heap.size w2 W) => hM.below h hM.lt
  have HNF := Lib.hid fun W (h : Below w2.heap.size w2 W) => hN.below h hN.lt
  have HB2 := Lib.hid hb2
  have HRF := Lib.hid (show Calls Tryd.prog 33 #[.int .i64 0, .slice none 0 0] w2 (fun e w' => ∃ A' c', e = .returned (refused 0 A' 0 c') ∧ Reads w' (fun k => w2.heap.size ≤ k) A' (([] : List UInt8).map vb) ∧ Below w2.heap.size w2 w') from
    refuse_any 0 none 0 [] (fun _ => True) w2 (by simp) Reads.nil)
  have fin : ∀ (e : Ending) (W : World), (∃ A c, e = .returned (refused 0 A 0 c) ∧ Reads W (fun _ => True) A (([] : List UInt8).map vb)) → Below w.heap.size w W → GetEnd w b (.inl 0) e W := fun e W h hb => by
    obtain ⟨A, c, he, hr⟩ := h
    exact ⟨hb, fun s hs => by cases hs; exact ⟨A, c, [], he, hr, by simp, fun h => absurd hb4 h⟩, fun o ho => by cases ho⟩
  have FIN := Lib.hid fin
  have hlp0 : 0 < b.length := by cases b <;> simp at hb4 ⊢
  have hcell : ∀ j (hj : j < b.length), ∃ bk off, A = some ⟨bk, off, none⟩ ∧ w2.cell? ⟨bk, off + j, none⟩ = some (.int .u8 (b[j]'hj).toNat) := fun j hj => by
    obtain ⟨bk, off, rfl, hbk, hbl, hc⟩ := hr.at_ (k := j) (by simpa using hj)
    refine ⟨bk, off, rfl, (hb2.cell (p := ⟨bk, off + j, none⟩) hbl).trans ?_⟩
    rw [hc, List.getElem_map]
    rfl
  obtain ⟨bk, off, rfl, hc0⟩ := hcell 0 hlp0
  have h40 : b[0] = 4 := by
    cases b with
    | nil => simp at hlp0
    | cons x xs => simpa using hb4
  rw [h40] at hc0
  have hc0 : w2.cell? ⟨bk, off, none⟩ = some (.int .u8 4) := hc0
  have hc1 : ((w.alloc (.cells #[.int .i64 0, .int .i64 0, .int .u32 0, .bool false, .int .i64 0] 24)).alloc (.cells #[.int .i64 0, .int .i64 0, .slice none 0 0] 37)).cell? ⟨bk, off, none⟩ = some (.int .u8 4) := by rw [HW2.out]; exact hc0
  have hlp : (((b.length : Nat) : Int) == 0) = false := by rw [beq_eq_false_iff_ne]; omega
  have hlq : (0 : Int) < ((b.length : Nat) : Int) := by omega
  by_cases h10 : b.length < 10
  · have h10i : ((b.length : Nat) : Int) < 10 := by omega
    clear hM hN hb2 hr hs2 hw2 fin hcell hc0 hbn hb4 h40
    generalize b.length = ln at *
    go_enter Tryd.func12, Tryd.ntmps12
    go_wp2_with fail
    rw [HW2.out]
    refine HRF.out.mono ?_
    rintro e w9 ⟨A9, c9, rfl, hr9, hb9⟩
    have HB9 := Lib.hid hb9
    have HBW := Lib.hid (HB2.out.trans (HB9.out.mono HB2.out.size))
    have HR9 := Lib.hid (show Reads w9 (fun k => w.heap.size + 2 ≤ k) A9 (([] : List UInt8).map vb) from hr9.mono (fun k _ h => by have := HS2.out; omega))
    clear hb9 hr9 hc1
    have hM9 := HMF.out w9 HB9.out
    have hN9 := HNF.out w9 HB9.out
    have hlt9 : w.heap.size + 2 ≤ w9.heap.size := hN9.lt
    have hM10 := hM9.setRow_ #[.int .i64 0, .int .i64 0, .int .u32 0, .bool false, .int .i64 0]
    have hN10 := hN9.farRow (k := w.heap.size) (by omega) #[.int .i64 0, .int .i64 0, .int .u32 0, .bool false, .int .i64 0]
    have hM11 := Lib.hid (hM10.farRow (k := w.heap.size + 1) (by omega) #[.int .i64 2, .int .i64 0, .slice A9 0 c9])
    have hN11 := Lib.hid (hN10.setRow_ #[.int .i64 2, .int .i64 0, .slice A9 0 c9])
    have hB11 := below_setRow (below_setRow HBW.out (g := w.heap.size) (Nat.le_refl _) #[.int .i64 0, .int .i64 0, .int .u32 0, .bool false, .int .i64 0]) (g := w.heap.size + 1) (by omega) #[.int .i64 2, .int .i64 0, .slice A9 0 c9]
    have HRD := Lib.hid (show Reads ((w9.setRow w.heap.size #[.int .i64 0, .int .i64 0, .int .u32 0, .bool false, .int .i64 0]).setRow (w.heap.size + 1) #[.int .i64 2, .int .i64 0, .slice A9 0 c9]) (fun _ => True) A9 (([] : List UInt8).map vb) from by
      have h1 := HR9.out.only (only_setRow w9 w.heap.size #[.int .i64 0, .int .i64 0, .int .u32 0, .bool false, .int .i64 0]) (fun b _ h e => by omega)
      exact (h1.only (only_setRow _ (w.heap.size + 1) #[.int .i64 2, .int .i64 0, .slice A9 0 c9]) (fun b _ h e => by omega)).mono (fun b _ h => trivial))
    clear hM10
    unfold refused ozero OV.cells
    go_wp2_with (first | (refine wpList_store_blk (by rfl) 24 (.tmp 2) (.tmp 34) rfl w.heap.size #[.int .i64 0, .int .i64 0, .int .u32 0, .bool false, .int .i64 0] (by rfl) (by rfl) 24 _ hM9 (by kernel_rfl) (by rfl) (ov_one _ _ _ _ _) ?_) |
      (refine wpList_store_blk (by rfl) 37 (.tmp 3) (.tmp 35) rfl (w.heap.size + 1) #[.int .i64 2, .int .i64 0, .slice A9 0 c9] (by rfl) (by rfl) 37 _ hN10 (by kernel_rfl) (by rfl) (note_one _ _ _ _ _) ?_))
    refine bodyPost_ret (results_cell_cell rfl _ _ _ _ 24 37 #[.int .i64 0, .int .i64 0, .int .u32 0, .bool false, .int .i64 0] #[.int .i64 2, .int .i64 0, .slice A9 0 c9] (0, 0) (0, 0) _ _ (by simp [Act.put]) (by simp [Act.put]) hM11.out hN11.out Tryd.underlying24 rfl (by kernel_rfl) Tryd.underlying37 rfl (by kernel_rfl)) rfl ?_
    exact FIN.out _ _ ⟨A9, c9, rfl, HRD.out⟩ hB11
  · obtain ⟨bk', off', e1, hc9⟩ := hcell 9 (by omega)
    injection e1 with e1
    injection e1 with e1 e2
    subst e1 e2
    have hc9a : ((w.alloc (.cells #[.int .i64 0, .int .i64 0, .int .u32 0, .bool false, .int .i64 0] 24)).alloc (.cells #[.int .i64 0, .int .i64 0, .slice none 0 0] 37)).cell? ⟨bk, off + 9, none⟩ = some (.int .u8 (b[9]'(by omega)).toNat) := by rw [HW2.out]; exact hc9
    have hb9 : (b[9]'(by omega)).toNat ≠ b.length - 10 := fun e => hbn ⟨by omega, by rw [List.getD_eq_getElem?_getD, List.getElem?_eq_getElem (by omega)]; exact e⟩
    have h10i : ¬ ((b.length : Nat) : Int) < 10 := by omega
    have h9i : (9 : Int) < ((b.length : Nat) : Int) := by omega
    have hb256 : (b[9]'(by omega)).toNat < 256 := (b[9]'(by omega)).toNat_lt
    have hnb : ((((b[9]'(by omega)).toNat : Nat) : Int) != ((b.length : Nat) : Int) - 10) = true := by rw [bne_iff_ne]; omega
    have e3 : IntKind.i64.wrap (((b[9]'(by omega)).toNat : Nat) : Int) = (((b[9]'(by omega)).toNat : Nat) : Int) := IntWalk.i64_in _ (by omega)
    have e4 : IntKind.i64.wrap (((b.length : Nat) : Int) - 10) = ((b.length : Nat) : Int) - 10 := IntWalk.i64_in _ (by omega)
    clear hM hN hb2 hr hs2 hw2 fin hcell hc0 hc9 hbn hb4 h40 hb9
    generalize (b[9]'(by omega)).toNat = b9n at *
    generalize b.length = ln at *
    go_enter Tryd.func12, Tryd.ntmps12
    go_wp2_with fail
    rw [HW2.out]
    refine HRF.out.mono ?_
    rintro e w9 ⟨A9, c9, rfl, hr9, hb9⟩
    have HB9 := Lib.hid hb9
    have HBW := Lib.hid (HB2.out.trans (HB9.out.mono HB2.out.size))
    have HR9 := Lib.hid (show Reads w9 (fun k => w.heap.size + 2 ≤ k) A9 (([] : List UInt8).map vb) from hr9.mono (fun k _ h => by have := HS2.out; omega))
    clear hb9 hr9 hc1 hc9a
    have hM9 := HMF.out w9 HB9.out
    have hN9 := HNF.out w9 HB9.out
    have hlt9 : w.heap.size + 2 ≤ w9.heap.size := hN9.lt
    have hM10 := hM9.setRow_ #[.int .i64 0, .int .i64 0, .int .u32 0, .bool false, .int .i64 0]
    have hN10 := hN9.farRow (k := w.heap.size) (by omega) #[.int .i64 0, .int .i64 0, .int .u32 0, .bool false, .int .i64 0]
    have hM11 := Lib.hid (hM10.farRow (k := w.heap.size + 1) (by omega) #[.int .i64 2, .int .i64 0, .slice A9 0 c9])
    have hN11 := Lib.hid (hN10.setRow_ #[.int .i64 2, .int .i64 0, .slice A9 0 c9])
    have hB11 := below_setRow (below_setRow HBW.out (g := w.heap.size) (Nat.le_refl _) #[.int .i64 0, .int .i64 0, .int .u32 0, .bool false, .int .i64 0]) (g := w.heap.size + 1) (by omega) #[.int .i64 2, .int .i64 0, .slice A9 0 c9]
    have HRD := Lib.hid (show Reads ((w9.setRow w.heap.size #[.int .i64 0, .int .i64 0, .int .u32 0, .bool false, .int .i64 0]).setRow (w.heap.size + 1) #[.int .i64 2, .int .i64 0, .slice A9 0 c9]) (fun _ => True) A9 (([] : List UInt8).map vb) from by
      have h1 := HR9.out.only (only_setRow w9 w.heap.size #[.int .i64 0, .int .i64 0, .int .u32 0, .bool false, .int .i64 0]) (fun b _ h e => by omega)
      exact (h1.only (only_setRow _ (w.heap.size + 1) #[.int .i64 2, .int .i64 0, .slice A9 0 c9]) (fun b _ h e => by omega)).mono (fun b _ h => trivial))
    clear hM10
    unfold refused ozero OV.cells
    go_wp2_with (first | (refine wpList_store_blk (by rfl) 24 (.tmp 2) (.tmp 34) rfl w.heap.size #[.int .i64 0, .int .i64 0, .int .u32 0, .bool false, .int .i64 0] (by rfl) (by rfl) 24 _ hM9 (by kernel_rfl) (by rfl) (ov_one _ _ _ _ _) ?_) |
      (refine wpList_store_blk (by rfl) 37 (.tmp 3) (.tmp 35) rfl (w.heap.size + 1) #[.int .i64 2, .int .i64 0, .slice A9 0 c9] (by rfl) (by rfl) 37 _ hN10 (by kernel_rfl) (by rfl) (note_one _ _ _ _ _) ?_))
    refine bodyPost_ret (results_cell_cell rfl _ _ _ _ 24 37 #[.int .i64 0, .int .i64 0, .int .u32 0, .bool false, .int .i64 0] #[.int .i64 2, .int .i64 0, .slice A9 0 c9] (0, 0) (0, 0) _ _ (by simp [Act.put]) (by simp [Act.put]) hM11.out hN11.out Tryd.underlying24 rfl (by kernel_rfl) Tryd.underlying37 rfl (by kernel_rfl)) rfl ?_
    exact FIN.out _ _ ⟨A9, c9, rfl, HRD.out⟩ hB11
end
end Go.Proofs.YtbmbpcibihddaaaDoor
