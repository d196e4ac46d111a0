/-
  What routers say of themselves: what a body of the right length says. Under: the body reads as bytes.
-/
import Derived.Test.YtbmbpcibihddaaaDoorOpL
namespace Go.Proofs.YtbmbpcibihddaaaDoor
open Go.ChangeShapes Go.WideShapes Go.ChangeAt Go.RowKit

/-- what comes of what was read -/
def finR : Said → Said
  | .inl s => .inl s
  | .inr o => if 0 ≤ o.fault then .inl o.fault else .inr o
section
variable {w : World}
set_option maxRecDepth 10000 in
set_option maxHeartbeats 8000000 in
theorem get_go (A : Option Addr) (cap : Nat) (b : List UInt8) (F : Nat → Prop) (hl : b.length ≤ 1000000) (hlc : b.length ≤ cap) (hr : Reads w F A (b.map vb)) (hb4 : b.head? = some 4) (hbn : 10 ≤ b.length ∧ (b.getD 9 0).toNat = b.length - 10) :
    Calls Tryd.prog 12 #[.slice A b.length cap] w (GetEnd w b (openL b)) := by
  obtain ⟨h10, hb9⟩ := hbn
  obtain ⟨na, hna⟩ : ∃ na, ofBe ((b.drop 1).take 2) = na := ⟨_, rfl⟩
  obtain ⟨nh, hnh⟩ : ∃ nh, ofBe ((b.drop 3).take 2) = nh := ⟨_, rfl⟩
  obtain ⟨ni, hni⟩ : ∃ ni, ofBe ((b.drop 5).take 4) = ni := ⟨_, rfl⟩
  obtain ⟨R, hR⟩ : ∃ R, eachL parS ⟨ofBe ((b.drop 1).take 2), ofBe ((b.drop 3).take 2), ofBe ((b.drop 5).take 4), false, 0⟩ (b.drop 10) = R := ⟨_, rfl⟩
  have hO : openL b = finR R := by
    unfold openL
    rw [if_pos hb4, if_pos ⟨h10, hb9⟩, hR]
    cases R <;> rfl
  have HNA := Lib.hid hna
  have HNH := Lib.hid hnh
  have HNI := Lib.hid hni
  rw [hna, hnh, hni] at hR
  have HO := Lib.hid hO
  generalize openL b = RR at *
  clear hO
  obtain ⟨hM, hN, hb2⟩ := get_cells w
  obtain ⟨w2, hw2⟩ : ∃ w2, (w.alloc (.cells #[.int .i64 0, .int .i64 0, .int .u32 0, .bool false, .int .i64 0] 24)).alloc (.cells #[.int .i64 0, .int .i64 0, .slice none 0 0] 37) = w2 := ⟨_, rfl⟩
  have hs2 : w2.heap.size = w.heap.size + 2 := by rw [← hw2]; simp
  have HS2 := Lib.hid hs2
  rw [hw2] at hM hN hb2
  have HW2 := Lib.hid hw2
  have HMF := Lib.hid fun W (h : Below w2.heap.size w2 W) => hM.below h hM.lt
  have HNF := Lib.hid fun W (h : Below w2.heap.size w2 W) => hN.below h hN.lt
  have HB2 := Lib.hid hb2
  have HRF := Lib.hid fun (sub : Int) (W : World) => (show Calls Tryd.prog 33 #[.int .i64 sub, .slice none 0 0] W (fun e w' => ∃ A' c', e = .returned (refused sub A' 0 c') ∧ Reads w' (fun k => W.heap.size ≤ k) A' (([] : List UInt8).map vb) ∧ Below W.heap.size W w') from
    refuse_any sub none 0 [] (fun _ => True) W (by simp) Reads.nil)
  have fin : ∀ (s : Int) (e : Ending) (W : World), RR = .inl s → (∃ A c, e = .returned (refused s A 0 c) ∧ Reads W (fun _ => True) A (([] : List UInt8).map vb)) → Below w.heap.size w W → GetEnd w b RR e W := fun s e W hRR h hb => by
    obtain ⟨A, c, he, hr⟩ := h
    exact ⟨hb, fun s' hs => by rw [hRR] at hs; cases hs; exact ⟨A, c, [], he, hr, by simp, fun h => absurd hb4 h⟩, fun o ho => by rw [hRR] at ho; cases ho⟩
  have FIN := Lib.hid fin
  have hcell : ∀ j (hj : j < b.length), ∃ bk off, A = some ⟨bk, off, none⟩ ∧ w2.cell? ⟨bk, off + j, none⟩ = some (.int .u8 (b[j]'hj).toNat) := fun j hj => by
    obtain ⟨bk, off, rfl, hbk, hbl, hc⟩ := hr.at_ (k := j) (by simpa using hj)
    refine ⟨bk, off, rfl, (hb2.cell (p := ⟨bk, off + j, none⟩) hbl).trans ?_⟩
    rw [hc, List.getElem_map]
    rfl
  have hr2 : Reads w2 (· < w2.heap.size) A (b.map vb) := ((hr.mono (G := (· < w.heap.size)) (fun k hk _ => hk)).below hb2 (fun _ _ h => h)).mono (fun k hk _ => hk)
  obtain ⟨bk, off, rfl, hc0⟩ := hcell 0 (by omega)
  have h40 : b[0] = 4 := by
    cases b with
    | nil => simp at h10
    | cons x xs => simpa using hb4
  rw [h40] at hc0
  have hc0 : w2.cell? ⟨bk, off, none⟩ = some (.int .u8 4) := hc0
  have hc1 : ((w.alloc (.cells #[.int .i64 0, .int .i64 0, .int .u32 0, .bool false, .int .i64 0] 24)).alloc (.cells #[.int .i64 0, .int .i64 0, .slice none 0 0] 37)).cell? ⟨bk, off, none⟩ = some (.int .u8 4) := by rw [HW2.out]; exact hc0
  have hlp : (((b.length : Nat) : Int) == 0) = false := by rw [beq_eq_false_iff_ne]; omega
  have hlq : (0 : Int) < ((b.length : Nat) : Int) := by omega
  obtain ⟨bk', off', e1, hc9⟩ := hcell 9 (by omega)
  injection e1 with e1
  injection e1 with e1 e2
  subst e1 e2
  have hc9a : ((w.alloc (.cells #[.int .i64 0, .int .i64 0, .int .u32 0, .bool false, .int .i64 0] 24)).alloc (.cells #[.int .i64 0, .int .i64 0, .slice none 0 0] 37)).cell? ⟨bk, off + 9, none⟩ = some (.int .u8 (b[9]'(by omega)).toNat) := by rw [HW2.out]; exact hc9
  have hb9 : (b[9]'(by omega)).toNat = b.length - 10 := by
    rw [List.getD_eq_getElem?_getD, List.getElem?_eq_getElem (by omega)] at hb9
    exact hb9
  have h10i : ¬ ((b.length : Nat) : Int) < 10 := by omega
  have h9i : (9 : Int) < ((b.length : Nat) : Int) := by omega
  have hb256 : (b[9]'(by omega)).toNat < 256 := (b[9]'(by omega)).toNat_lt
  have hnb : ((((b[9]'(by omega)).toNat : Nat) : Int) != ((b.length : Nat) : Int) - 10) = false := by rw [bne_eq_false_iff_eq]; omega
  have e3 : IntKind.i64.wrap (((b[9]'(by omega)).toNat : Nat) : Int) = (((b[9]'(by omega)).toNat : Nat) : Int) := IntWalk.i64_in _ (by omega)
  have e4 : IntKind.i64.wrap (((b.length : Nat) : Int) - 10) = ((b.length : Nat) : Int) - 10 := IntWalk.i64_in _ (by omega)
  have hsz : (Tryd.prog.info? 5).map (·.size) = some 1 := by kernel_rfl
  have hlen1 : (b.drop 1).length = b.length - 1 := by simp
  have hlenA : (b.drop 10).length = b.length - 10 := by simp
  have HFR := from_any (cutA (some ⟨bk, off, none⟩) cap 1) (cap - 1) (b.drop 1) _ w2 (by omega) (by
    rw [List.map_drop]
    exact hr2.cut (c := cap) (by simpa using hlc) 1)
  rw [hlen1] at HFR
  have HFR := Lib.hid HFR
  have HRA : Reads w2 (· < w2.heap.size) (cutA (some ⟨bk, off, none⟩) cap 10) ((b.drop 10).map vb) := by
    rw [List.map_drop]
    exact hr2.cut (c := cap) (by simpa using hlc) 10
  have HRA := Lib.hid HRA
  have hlb := hl
  have HLA := Lib.hid hlenA
  have HL1 := Lib.hid hlen1
  have hid32 : ni < 4294967296 := by
    rw [← HNI.out]
    have h1 := ofBe_lt ((b.drop 5).take 4)
    have h2 : 256 ^ ((b.drop 5).take 4).length ≤ 256 ^ 4 := Nat.pow_le_pow_right (by decide) (by simp; omega)
    omega
  clear hM hN hb2 hr hs2 hw2 fin hcell hc0 hc9 hb4 h40 hr2 hna hnh hni
  generalize (b[9]'(by omega)).toNat = b9n at *
  obtain ⟨ln, hln⟩ : ∃ ln, ln = b.length := ⟨_, rfl⟩
  have HLN := Lib.hid hln
  rw [← hln] at hl hlc h10 hlp hlq hb9 h10i h9i hnb e4 HFR hlb
  rw [← hln]
  clear hln hlen1 hlenA
  go_enter Tryd.func12, Tryd.ntmps12
  go_wp2_with (refine wpList_cut_from (by rfl) 25 5 (.tmp 36) (.const (.int .i64 1)) rfl Tryd.underlying25 hsz (some ⟨bk, off, none⟩) ln cap 1 (1 : Int) (by rfl) (by rfl) rfl (by omega) ?_)
  rw [HW2.out]
  refine HFR.out.mono ?_
  rintro e w3 ⟨g, G, rfl, hrd3, hg3, hG3, hb3⟩
  have HB3 := Lib.hid hb3
  have hn1 := num_ok hrd3 2 (by omega) (by omega) (by rw [HL1.out, ← HLN.out]; omega) (by rw [HL1.out, ← HLN.out]; omega)
  rw [HNA.out] at hn1
  have HN1 := Lib.hid hn1
  clear hn1
  clear hrd3 hb3 hc1 hc9a HFR
  go_wp2_with fail
  refine HN1.out.mono ?_
  rintro e w4 ⟨rfl, hrd4, ho4⟩
  have hrd4 : RD w4 G 99 g (b.drop 3) false := by rw [List.drop_drop] at hrd4; exact hrd4
  have HB4 := Lib.hid (HB3.out.trans (ho4.below HB3.out.size (by rintro i rfl; exact hg3)))
  have hn2 := num_ok hrd4 2 (by omega) (by omega) (by rw [List.length_drop, ← HLN.out]; omega) (by rw [List.length_drop, ← HLN.out]; omega)
  rw [HNH.out] at hn2
  have HN2 := Lib.hid hn2
  clear hn2
  clear hrd4 ho4 HN1
  go_wp2_with fail
  refine HN2.out.mono ?_
  rintro e w5 ⟨rfl, hrd5, ho5⟩
  have hrd5 : RD w5 G 99 g (b.drop 5) false := by rw [List.drop_drop] at hrd5; exact hrd5
  have HB5 := Lib.hid (HB4.out.trans (ho5.below HB4.out.size (by rintro i rfl; exact hg3)))
  have hn3 := num_ok hrd5 4 (by omega) (by omega) (by rw [List.length_drop, ← HLN.out]; omega) (by rw [List.length_drop, ← HLN.out]; omega)
  rw [HNI.out] at hn3
  have HN3 := Lib.hid hn3
  clear hn3
  clear hrd5 ho5 HN2
  go_wp2_with fail
  refine HN3.out.mono ?_
  rintro e w6 ⟨rfl, hrd6, ho6⟩
  have HB6 := Lib.hid (HB5.out.trans (ho6.below HB5.out.size (by rintro i rfl; exact hg3)))
  clear hrd6 ho6 HN3
  have HR := Lib.hid hR
  clear hR
  have e5 : IntKind.u32.wrap (ni : Int) = (ni : Int) := by simp [IntKind.wrap, IntKind.signed, IntKind.bits]; omega
  have HS7 := Lib.hid (show SaidIs (w6.alloc (.cells #[.int .i64 na, .int .i64 nh, .int .u32 ni, .bool false, .int .i64 0] 73)) w6.heap.size ⟨na, nh, ni, false, 0⟩ from Blk.new w6 _ _)
  have HB7 := Lib.hid (show Below w2.heap.size w2 (w6.alloc (.cells #[.int .i64 na, .int .i64 nh, .int .u32 ni, .bool false, .int .i64 0] 73)) from HB6.out.alloc HB6.out.size _)
  have HRA7 := HRA.out.below HB7.out (fun _ _ h => h)
  have HPA := pars_any (cap := cap - 10) HS7.out (by rw [HLA.out, ← HLN.out]; omega) HRA7
  rw [HR.out, HLA.out, ← HLN.out] at HPA
  have HPA := Lib.hid HPA
  have hs6 := HB6.out.size
  clear HRA7
  go_wp2_with (refine wpList_cut_from (by rfl) 25 5 (.tmp 49) (.const (.int .i64 10)) rfl Tryd.underlying25 hsz (some ⟨bk, off, none⟩) ln cap 10 (10 : Int) (by rfl) (by rfl) rfl (by omega) ?_)
  cases R with
  | inl s =>
    have HOO := Lib.hid (show RR = .inl s from HO.out)
    refine (take_no HPA.out rfl).mono ?_
    rintro e w8 ⟨rfl, hs0, ho8⟩
    have HB8 := Lib.hid (HB7.out.trans (ho8.below HB7.out.size (by rintro i rfl; exact hs6)))
    clear ho8 HPA
    go_wp2_with fail
    refine (HRF.out s w8).mono ?_
    rintro e w9 ⟨A9, c9, rfl, hr9, hb9⟩
    have HB9 := Lib.hid (HB8.out.trans (hb9.mono HB8.out.size))
    have HBW := Lib.hid (HB2.out.trans (HB9.out.mono HB2.out.size))
    have HR9 := Lib.hid (show Reads w9 (fun k => w.heap.size + 2 ≤ k) A9 (([] : List UInt8).map vb) from hr9.mono (fun k _ h => by have := HS2.out; have := HB8.out.size; omega))
    clear hb9 hr9
    have hM9 := HMF.out w9 HB9.out
    have hN9 := HNF.out w9 HB9.out
    have hlt9 : w.heap.size + 2 ≤ w9.heap.size := hN9.lt
    have hM10 := hM9.setRow_ #[.int .i64 0, .int .i64 0, .int .u32 0, .bool false, .int .i64 0]
    have hN10 := hN9.farRow (k := w.heap.size) (by omega) #[.int .i64 0, .int .i64 0, .int .u32 0, .bool false, .int .i64 0]
    have hM11 := Lib.hid (hM10.farRow (k := w.heap.size + 1) (by omega) #[.int .i64 2, .int .i64 s, .slice A9 0 c9])
    have hN11 := Lib.hid (hN10.setRow_ #[.int .i64 2, .int .i64 s, .slice A9 0 c9])
    have hB11 := below_setRow (below_setRow HBW.out (g := w.heap.size) (Nat.le_refl _) #[.int .i64 0, .int .i64 0, .int .u32 0, .bool false, .int .i64 0]) (g := w.heap.size + 1) (by omega) #[.int .i64 2, .int .i64 s, .slice A9 0 c9]
    have HRD := Lib.hid (show Reads ((w9.setRow w.heap.size #[.int .i64 0, .int .i64 0, .int .u32 0, .bool false, .int .i64 0]).setRow (w.heap.size + 1) #[.int .i64 2, .int .i64 s, .slice A9 0 c9]) (fun _ => True) A9 (([] : List UInt8).map vb) from by
      have h1 := HR9.out.only (only_setRow w9 w.heap.size #[.int .i64 0, .int .i64 0, .int .u32 0, .bool false, .int .i64 0]) (fun b _ h e => by omega)
      exact (h1.only (only_setRow _ (w.heap.size + 1) #[.int .i64 2, .int .i64 s, .slice A9 0 c9]) (fun b _ h e => by omega)).mono (fun b _ h => trivial))
    clear hM10
    unfold refused ozero OV.cells
    go_wp2_with (first | (refine wpList_store_blk (by rfl) 24 (.tmp 2) (.tmp 62) rfl w.heap.size #[.int .i64 0, .int .i64 0, .int .u32 0, .bool false, .int .i64 0] (by rfl) (by rfl) 24 _ hM9 (by kernel_rfl) (by rfl) (ov_one _ _ _ _ _) ?_) |
      (refine wpList_store_blk (by rfl) 37 (.tmp 3) (.tmp 63) rfl (w.heap.size + 1) #[.int .i64 2, .int .i64 s, .slice A9 0 c9] (by rfl) (by rfl) 37 _ hN10 (by kernel_rfl) (by rfl) (note_one _ _ _ _ _) ?_))
    refine bodyPost_ret (results_cell_cell rfl _ _ _ _ 24 37 #[.int .i64 0, .int .i64 0, .int .u32 0, .bool false, .int .i64 0] #[.int .i64 2, .int .i64 s, .slice A9 0 c9] (0, 0) (0, 0) _ _ (by simp [Act.put]) (by simp [Act.put]) hM11.out hN11.out Tryd.underlying24 rfl (by kernel_rfl) Tryd.underlying37 rfl (by kernel_rfl)) rfl ?_
    exact FIN.out s _ _ HOO.out ⟨A9, c9, rfl, HRD.out⟩ hB11
  | inr o =>
    refine (take_yes HPA.out rfl).mono ?_
    rintro e w8 ⟨rfl, hs8, ho8⟩
    have HB8 := Lib.hid (HB7.out.trans (ho8.below HB7.out.size (by rintro i rfl; exact hs6)))
    have HF := Lib.hid (ofault_any hs8)
    have HS8 := Lib.hid hs8
    have hw8 := hs8.lt
    clear ho8 HPA hs8
    by_cases hf : 0 ≤ o.fault
    · have HOO := Lib.hid (show RR = .inl o.fault from by rw [HO.out]; exact if_pos hf)
      have hf2 : ¬ o.fault < 0 := by omega
      generalize o.fault = s at *
      go_wp2_with (go_at_call 38; refine (HF.out).mono ?_; rintro e w' ⟨rfl, rfl⟩)
      refine (HRF.out s w8).mono ?_
      rintro e w9 ⟨A9, c9, rfl, hr9, hb9⟩
      have HB9 := Lib.hid (HB8.out.trans (hb9.mono HB8.out.size))
      have HBW := Lib.hid (HB2.out.trans (HB9.out.mono HB2.out.size))
      have HR9 := Lib.hid (show Reads w9 (fun k => w.heap.size + 2 ≤ k) A9 (([] : List UInt8).map vb) from hr9.mono (fun k _ h => by have := HS2.out; have := HB8.out.size; omega))
      clear hb9 hr9
      have hM9 := HMF.out w9 HB9.out
      have hN9 := HNF.out w9 HB9.out
      have hlt9 : w.heap.size + 2 ≤ w9.heap.size := hN9.lt
      have hM10 := hM9.setRow_ #[.int .i64 0, .int .i64 0, .int .u32 0, .bool false, .int .i64 0]
      have hN10 := hN9.farRow (k := w.heap.size) (by omega) #[.int .i64 0, .int .i64 0, .int .u32 0, .bool false, .int .i64 0]
      have hM11 := Lib.hid (hM10.farRow (k := w.heap.size + 1) (by omega) #[.int .i64 2, .int .i64 s, .slice A9 0 c9])
      have hN11 := Lib.hid (hN10.setRow_ #[.int .i64 2, .int .i64 s, .slice A9 0 c9])
      have hB11 := below_setRow (below_setRow HBW.out (g := w.heap.size) (Nat.le_refl _) #[.int .i64 0, .int .i64 0, .int .u32 0, .bool false, .int .i64 0]) (g := w.heap.size + 1) (by omega) #[.int .i64 2, .int .i64 s, .slice A9 0 c9]
      have HRD := Lib.hid (show Reads ((w9.setRow w.heap.size #[.int .i64 0, .int .i64 0, .int .u32 0, .bool false, .int .i64 0]).setRow (w.heap.size + 1) #[.int .i64 2, .int .i64 s, .slice A9 0 c9]) (fun _ => True) A9 (([] : List UInt8).map vb) from by
        have h1 := HR9.out.only (only_setRow w9 w.heap.size #[.int .i64 0, .int .i64 0, .int .u32 0, .bool false, .int .i64 0]) (fun b _ h e => by omega)
        exact (h1.only (only_setRow _ (w.heap.size + 1) #[.int .i64 2, .int .i64 s, .slice A9 0 c9]) (fun b _ h e => by omega)).mono (fun b _ h => trivial))
      clear hM10
      unfold refused ozero OV.cells
      go_wp2_with (first | (refine wpList_store_blk (by rfl) 24 (.tmp 2) (.tmp 62) rfl w.heap.size #[.int .i64 0, .int .i64 0, .int .u32 0, .bool false, .int .i64 0] (by rfl) (by rfl) 24 _ hM9 (by kernel_rfl) (by rfl) (ov_one _ _ _ _ _) ?_) |
        (refine wpList_store_blk (by rfl) 37 (.tmp 3) (.tmp 63) rfl (w.heap.size + 1) #[.int .i64 2, .int .i64 s, .slice A9 0 c9] (by rfl) (by rfl) 37 _ hN10 (by kernel_rfl) (by rfl) (note_one _ _ _ _ _) ?_))
      refine bodyPost_ret (results_cell_cell rfl _ _ _ _ 24 37 #[.int .i64 0, .int .i64 0, .int .u32 0, .bool false, .int .i64 0] #[.int .i64 2, .int .i64 s, .slice A9 0 c9] (0, 0) (0, 0) _ _ (by simp [Act.put]) (by simp [Act.put]) hM11.out hN11.out Tryd.underlying24 rfl (by kernel_rfl) Tryd.underlying37 rfl (by kernel_rfl)) rfl ?_
      exact FIN.out s _ _ HOO.out ⟨A9, c9, rfl, HRD.out⟩ hB11
    · have HOO := Lib.hid (show RR = .inr o from by rw [HO.out]; exact if_neg hf)
      have hf2 : o.fault < 0 := by omega
      generalize o.fault = s at *
      obtain ⟨oa, oh, oi, of, op⟩ := o
      have hB8 := Lib.hid (show Blk w8 w6.heap.size 73 #[.int .i64 oa, .int .i64 oh, .int .u32 oi, .bool of, .int .i64 op] from HS8.out)
      have hM9 := HMF.out w8 HB8.out
      have hN9 := HNF.out w8 HB8.out
      have hlt9 : w.heap.size + 2 ≤ w8.heap.size := hN9.lt
      have hM10 := hM9.setRow_ #[.int .i64 oa, .int .i64 oh, .int .u32 oi, .bool of, .int .i64 op]
      have hN10 := hN9.farRow (k := w.heap.size) (by omega) #[.int .i64 oa, .int .i64 oh, .int .u32 oi, .bool of, .int .i64 op]
      have hM11 := Lib.hid (hM10.farRow (k := w.heap.size + 1) (by omega) #[.int .i64 0, .int .i64 0, .slice none 0 0])
      have hN11 := Lib.hid (hN10.setRow_ #[.int .i64 0, .int .i64 0, .slice none 0 0])
      have HBW := HB2.out.trans (HB8.out.mono HB2.out.size)
      have hB11 := below_setRow (below_setRow HBW (g := w.heap.size) (Nat.le_refl _) #[.int .i64 oa, .int .i64 oh, .int .u32 oi, .bool of, .int .i64 op]) (g := w.heap.size + 1) (by omega) #[.int .i64 0, .int .i64 0, .slice none 0 0]
      clear hM10 HBW
      go_wp2_with (first | (go_at_call 38; refine (HF.out).mono ?_; rintro e w' ⟨rfl, rfl⟩) |
        (refine wpList_load_blk (by rfl) 24 (.tmp 66) rfl w6.heap.size (by rfl) 73 #[.int .i64 oa, .int .i64 oh, .int .u32 oi, .bool of, .int .i64 op] _ hB8.out Tryd.underlying24 rfl (by kernel_rfl) ?_) |
        (refine wpList_store_blk (by rfl) 24 (.tmp 2) (.tmp 67) rfl w.heap.size #[.int .i64 oa, .int .i64 oh, .int .u32 oi, .bool of, .int .i64 op] (by rfl) (by rfl) 24 _ hM9 (by kernel_rfl) (by rfl) (ov_one _ _ _ _ _) ?_) |
        (refine wpList_store_blk (by rfl) 37 (.tmp 3) (.tmp 68) rfl (w.heap.size + 1) #[.int .i64 0, .int .i64 0, .slice none 0 0] (by rfl) (by rfl) 37 _ hN10 (by kernel_rfl) (by rfl) (note_one _ _ _ _ _) ?_))
      refine bodyPost_ret (results_cell_cell rfl _ _ _ _ 24 37 #[.int .i64 oa, .int .i64 oh, .int .u32 oi, .bool of, .int .i64 op] #[.int .i64 0, .int .i64 0, .slice none 0 0] (0, 0) (0, 0) _ _ (by simp [Act.put]) (by simp [Act.put]) hM11.out hN11.out Tryd.underlying24 rfl (by kernel_rfl) Tryd.underlying37 rfl (by kernel_rfl)) rfl ?_
      exact ⟨hB11, fun s' hs' => (by rw [HOO.out] at hs'; cases hs'), fun o' ho => by rw [HOO.out] at ho; cases ho; rfl⟩
end
end Go.Proofs.YtbmbpcibihddaaaDoor
