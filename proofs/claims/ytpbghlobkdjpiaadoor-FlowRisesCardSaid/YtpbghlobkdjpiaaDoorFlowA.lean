/-
  Flow: an interface's bit, a want's ways. No condition but that the graph and the want stand in memory.
-/
import Derived.Test.YtpbghlobkdjpiaaDoorFlowB
namespace Go.Proofs.YtpbghlobkdjpiaaDoor
open Go.ChangeShapes Go.WideShapes Go.ChangeAt Go.RowKit Go.Maps

theorem law3 : Keyed Tryd.prog 3 := int_keyed Tryd.underlying3
theorem zero3 (w : World) : (zeroValue 3).run Tryd.prog w = .ok (.int .i64 0) w := by kernel_rfl

/-- the places of interfaces, as a map reads -/
def AtOf (D : DataW Unit) (ifs : List Int) : Prop := ∀ x, Maps.has D (.int .i64 x) = decide (x ∈ ifs) ∧ (x ∈ ifs → ∀ z, D.atKey (.int .i64 x) z = .lit (.int .i64 (ifs.idxOf x)))
theorem key_ne {x y : Int} (h : x ≠ y) : (Lit.int .i64 x) ≠ (Lit.int .i64 y) := fun e => h (by injection e)
theorem AtOf.nil : AtOf (.map []) [] := fun x => ⟨by simp [Maps.has], fun h => by simp at h⟩
theorem AtOf.snoc {D : DataW Unit} {ifs : List Int} (h : AtOf D ifs) (hm : Maps.IsMap D) {x : Int} (hx : x ∉ ifs) : AtOf (D.put (.int .i64 x) (.lit (.int .i64 ifs.length))) (ifs ++ [x]) := by
  intro y
  by_cases e : y = x
  · subst e
    refine ⟨by rw [Maps.has_put_same hm (show WideAt.IsKeyLit (Lit.int .i64 y) from trivial)]; simp, fun _ z => ?_⟩
    rw [Maps.atKey_put_same hm (show WideAt.IsKeyLit (Lit.int .i64 y) from trivial), List.idxOf_append, if_neg hx]
    simp
  · refine ⟨by rw [Maps.has_put_other (key_ne e), (h y).1]; simp [e], fun hy z => ?_⟩
    have hy : y ∈ ifs := by simpa [e] using hy
    rw [Maps.atKey_put_other (key_ne e), (h y).2 hy, List.idxOf_append, if_pos hy]

section
variable {w : World} {gb ba n : Nat} {D : DataW Unit} {ifs : List Int}
theorem bit_any (hc : w.cell? ⟨gb, 1, none⟩ = some (.map (some ba))) (hown : w.ownsMap Tryd.prog 3 (plainElem Tryd.prog 3) ba n D) (hat : AtOf D ifs) (hl : ifs.length ≤ 10) (x : Int) (hwf : (Lit.int .i64 x).wf = true) :
    Calls Tryd.prog 26 #[.pointer (some ⟨gb, 0, none⟩), .int .i64 x] w fun e w' => e = .returned (.int .i64 (bitN ifs x)) ∧ w = w' := by
  obtain ⟨h1, h2⟩ := hat x
  by_cases hx : x ∈ ifs
  · have hb : bitN ifs x = 2 ^ ifs.idxOf x := if_pos hx
    have hi := List.idxOf_lt_length_of_mem hx
    have h2 := Lib.hid (h2 hx)
    rw [decide_eq_true hx] at h1
    have HB := Lib.hid hb
    clear hb hat hx
    obtain ⟨i, hi2⟩ : ∃ i, i = ifs.idxOf x := ⟨_, rfl⟩
    rw [← hi2] at h2 HB hi
    clear hi2
    go_enter Tryd.func26, Tryd.ntmps26
    go_wp2_with (at_lookup; refine wpList_lookup_own_ok_int _ rfl _ _ 68 rfl 3 3 .i64 law3 Tryd.underlying68 Tryd.underlying3 (zero3 _) ba n D rfl hown _ _ rfl (keyOf_int_mk Tryd.underlying3 hwf) ?_; intro c hc1 hwc; obtain rfl : c = (i : Int) := by (rw [h2.out] at hc1; injection hc1 with hc1; injection hc1 with _ hc1; exact hc1.symm))
    go_ret
    exact ⟨by rw [HB.out, ← wrap_pow i (by omega)]; rfl, rfl⟩
  · have hb : bitN ifs x = 0 := if_neg hx
    rw [decide_eq_false hx] at h1
    have HB := Lib.hid hb
    clear hb hat hx h2
    go_enter Tryd.func26, Tryd.ntmps26
    go_wp2_with (at_lookup; refine wpList_lookup_own_ok_int _ rfl _ _ 68 rfl 3 3 .i64 law3 Tryd.underlying68 Tryd.underlying3 (zero3 _) ba n D rfl hown _ _ rfl (keyOf_int_mk Tryd.underlying3 hwf) ?_; intro c hc1 hwc)
    go_ret
    exact ⟨by rw [HB.out]; rfl, rfl⟩
theorem bitN_lt (ifs : List Int) (hl : ifs.length ≤ 10) (x : Int) : bitN ifs x < 1024 := by
  unfold bitN
  split
  · rename_i h
    have := List.idxOf_lt_length_of_mem h
    exact Nat.pow_lt_pow_right (by decide) (show ifs.idxOf x < 10 by omega)
  · omega
theorem waysTo_small (ifs : List Int) (hl : ifs.length ≤ 10) (xs : List Int) : waysTo ifs xs < 1024 := by
  suffices h : ∀ (xs : List Int) (s : Nat), s < 1024 → xs.foldl (fun s x => s ||| bitN ifs x) s < 1024 from h xs 0 (by omega)
  intro xs
  induction xs with
  | nil => intro s h; exact h
  | cons x xs ih => intro s h; exact ih _ (or_1024 h (bitN_lt ifs hl x))

set_option maxHeartbeats 1000000 in
theorem ways_any {F : Nat → Prop} (hc : w.cell? ⟨gb, 1, none⟩ = some (.map (some ba))) (hown : w.ownsMap Tryd.prog 3 (plainElem Tryd.prog 3) ba n D) (hat : AtOf D ifs) (hl : ifs.length ≤ 10) (v : WV) (hv : v.ok) (hr : Reads w F v.D (optCells v.ds)) :
    Calls Tryd.prog 30 #[.pointer (some ⟨gb, 0, none⟩), .agg v.cs] w fun e w' => e = .returned (.int .i64 (waysTo ifs v.fw.ways)) ∧ Below w.heap.size w w' := by
  obtain ⟨cs, m, f, D', dc, ds⟩ := v
  obtain ⟨hsz, hnum, hface, hdets, hwf, hone, hall, hlen⟩ := hv
  simp only at *
  have hcl : gb < w.heap.size := by
    rcases Nat.lt_or_ge gb w.heap.size with h | h
    · exact h
    · simp [World.cell?, Array.getElem?_eq_none h] at hc
  have hbl := hown.lt
  have HL := Lib.hid (optsLen hall)
  have HA := Lib.hid hall
  clear hsz hone hnum hall
  have hb1 := below_a1 w (.cells cs 55)
  have HV := Lib.hid fun (x : Int) W (hx : (Lit.int .i64 x).wf = true) (hb : Below w.heap.size w W) => bit_any ((hb.cell (p := ⟨gb, 1, none⟩) hcl).trans hc) (ownsMap_below hown hb hbl) hat hl x hx
  have HF := Lib.hid hwf
  have HW := Lib.hid (show waysTo ifs (f :: ds.map OV.f) = waysTo ifs (f :: (ds.map OV.f).take ds.length) by rw [List.take_of_length_le (by simp)])
  have HL10 := Lib.hid hl
  clear hc hown hat hwf hl
  show Calls _ _ _ _ (fun e w' => e = .returned (.int .i64 (waysTo ifs (f :: ds.map OV.f))) ∧ Below w.heap.size w w')
  rw [HW.out]
  clear HW
  go_enter Tryd.func30, Tryd.ntmps30
  go_wp2_with fail
  refine (HV.out f _ HF.out hb1).mono ?_
  rintro e w' ⟨rfl, rfl⟩
  go_wp2_with fail
  go_loopw [5, 16] (fun s i wr => ∃ k : Nat, k ≤ ds.length ∧ i = .int .i64 k ∧ s = .int .i64 (waysTo ifs (f :: (ds.map OV.f).take k)) ∧ Below w.heap.size w wr) (fun _ i _ => ds.length - (intOf i).toNat)
  case atStart => exact ⟨0, Nat.zero_le _, rfl, by simp [waysTo], hb1⟩
  case round =>
    obtain ⟨k, hk, rfl, rfl, hb⟩ := hrel
    by_cases hkl : k < ds.length
    · obtain ⟨b, off, rfl, _, hbw, hrg⟩ := hr.rangeAt (by omega) HL.out hkl
      have hrg1 : wr.rangeAt b (off + k * 11) ds[k].cs.toList := fun j v hj => (hb.cell (p := ⟨b, off + k * 11 + j, none⟩) hbw).trans (hrg j v hj)
      have ho := HA.out _ (List.getElem_mem hkl)
      have HO := Lib.hid ho
      have hsz1 : (Tryd.prog.info? 52).map (·.size) = some ds[k].cs.toList.length := by rw [HL.out _ (List.getElem_mem hkl)]; kernel_rfl
      have HX := Lib.hid (show waysTo ifs (f :: (ds.map OV.f).take (k + 1)) = waysTo ifs (f :: (ds.map OV.f).take k) ||| bitN ifs ds[k].f by rw [List.take_succ_eq_append_getElem (by simpa using hkl), ← List.cons_append, waysTo_snoc]; simp)
      have hw1 := waysTo_small ifs HL10.out (f :: (ds.map OV.f).take k)
      have hw2 := bitN_lt ifs HL10.out ds[k].f
      have hface2 := ho.face
      have HW2 := Lib.hid ho.wf
      have hcs : ds[k].cs = ds[k].cs.toList.toArray := by simp
      have hall1 := ho.one
      have hs11 : ds[k].cs.size = 11 := ho.size
      clear ho hrg
      generalize ds[k] = o at *
      obtain ⟨ocs, of⟩ := o
      simp only at *
      have hsz2 : (Tryd.prog.info? 52).map (·.size) = some ocs.size := by rw [hsz1]; simp
      clear hcs
      have H11 := Lib.hid hs11
      have HS1 := Lib.hid hsz1
      have HS2 := Lib.hid hsz2
      have HA1 := Lib.hid hall1
      clear hs11 hsz1 hsz2 hall1
      go_wp2_with (first | (refine wpList_load_mid rfl 52 (.tmp 18) rfl b (off + k * 11) rfl _ _ hrg1 Tryd.underlying52 rfl HS1.out ?_) | (refine wpList_store_new (by rfl) 52 (.tmp 7) (.tmp 19) rfl wr _ ocs (by rfl) (by rfl) (by rfl) HS2.out (by rw [H11.out]; rfl) HA1.out ?_))
      have hor := bits_or_n (waysTo ifs (f :: (ds.map OV.f).take k)) (bitN ifs of) (by omega) (by omega)
      refine (HV.out of _ HW2.out (hb.alloc hb.size _)).mono ?_
      rintro e w' ⟨rfl, rfl⟩
      go_wp2_with fail
      go_roundw
      case rel => exact ⟨k + 1, by omega, by go_num, by rw [HX.out], hb.alloc hb.size _⟩
      case measure => simp [intOf]; omega
    · obtain rfl : k = ds.length := by omega
      go_wp2_with fail
      go_ret
      exact ⟨rfl, hb⟩
end
end Go.Proofs.YtpbghlobkdjpiaaDoor
