/-
  Flow: with more room, or a want more, the most is no less, walked. Under: rooms and wants read as data; the library's table stands as its text lays it.
-/
import Derived.Test.YtpbghlobkdjpiaaDoorFlowMosts
import Derived.Deep.DeepCutAuto
import Derived.Deep.CutBlock
namespace Go.Proofs.YtpbghlobkdjpiaaDoor
open Go.ChangeShapes Go.WideShapes Go.ChangeAt Go.RowKit Go.Maps

theorem own_readsN {w : World} {B size : Nat} {e : TypeId} {n : Nat} {v : Value} {xs : List Value} (h : w.ownsRow B e size v n xs) : ∃ A c, v = .slice A n c ∧ Reads w (fun _ => True) A xs := by
  have h1 := h.1
  rcases h.2 with ⟨rfl, rfl⟩ | ⟨g, cap, cur, hv, hg, hh, hn, hc, hs, ht⟩
  · have : xs = [] := List.eq_nil_of_length_eq_zero (by simpa using h1)
    subst this
    exact ⟨none, 0, rfl, Reads.nil⟩
  · refine ⟨some ⟨g, 0, none⟩, cap, hv, .inr ⟨g, 0, rfl, trivial, ?_, fun j u hj => ?_⟩⟩
    · rcases Nat.lt_or_ge g w.heap.size with hl | hge
      · exact hl
      · rw [Array.getElem?_eq_none hge] at hh; cases hh
    · have hc' := h.cells (g := g) (by rw [hv]; rfl) j u hj
      rw [addr_add rfl] at hc'
      exact hc'
theorem one_of_all {cs : Array Value} (h : cs.all (·.oneCell') = true) : ∀ u ∈ cs.toList, u.oneCell' = true := by
  intro u hu
  rw [Array.all_eq_true'] at h
  exact h u (by simpa using hu)
theorem wants_len {ws : List WV} (h : ∀ v ∈ ws, v.ok) : (wantCells ws).length = ws.length * 16 := flat_len _ 16 ws (wantsLen h)
theorem wants_one {ws : List WV} (h : ∀ v ∈ ws, v.ok) : ∀ u ∈ wantCells ws, u.oneCell' = true := by
  intro u hu
  obtain ⟨v, hv, hu⟩ := List.mem_flatMap.1 hu
  exact one_of_all (h v hv).one u hu
theorem wants_snoc (ws : List WV) (v : WV) : wantCells (ws ++ [v]) = wantCells ws ++ v.cs.toList := by simp [wantCells]
theorem rooms_len (rs : List (Int × Int)) : (roomCells rs).length = rs.length * 2 := flat_len _ 2 rs (fun _ _ => rfl)
theorem rooms_one (rs : List (Int × Int)) : ∀ u ∈ roomCells rs, u.oneCell' = true := by
  intro u hu
  obtain ⟨v, _, hu⟩ := List.mem_flatMap.1 hu
  simp at hu
  rcases hu with rfl | rfl <;> rfl
theorem infoRoom : (Tryd.prog.info? 57).map (fun i => (i.zero, i.size, i.bytes)) = some (some (.agg #[.int .i64 0, .int .i64 0]), 2, 16) := by kernel_rfl
/-- a room more -/
theorem rooms_set : ∀ (rs : List (Int × Int)) (k : Nat) (x : Int) (hk : k < rs.length), roomCells (rs.set k (rs[k].1, x)) = (roomCells rs).set (k * 2 + 1) (.int .i64 x)
  | [], _, _, hk => by simp at hk
  | r :: rs, 0, x, _ => by simp [roomCells]
  | r :: rs, k + 1, x, hk => by
    have := rooms_set rs k x (by simpa using hk)
    simp only [roomCells, List.set_cons_succ, List.getElem_cons_succ, List.flatMap_cons] at this ⊢
    rw [this]
    rw [show (k + 1) * 2 + 1 = (k * 2 + 1) + 1 + 1 by omega]
    simp
theorem set_if {rs : List (Int × Int)} {k : Nat} (x : Int) (hk : k < rs.length) : ifsOf (rs.set k (rs[k].1, x)) = ifsOf rs := by
  unfold ifsOf
  rw [List.map_set]
  exact List.ext_getElem? fun i => by
    by_cases e : i = k
    · subst e
      simp [hk]
    · rw [List.getElem?_set_ne (fun h => e h.symm)]
theorem set_ifAt {rs : List (Int × Int)} {k : Nat} (x : Int) (hk : k < rs.length) (i : Nat) : ifAt (rs.set k (rs[k].1, x)) i = ifAt rs i := by
  unfold ifAt
  by_cases e : i = k
  · subst e
    simp [List.getD, hk]
  · simp [List.getD, List.getElem?_set_ne (fun h => e h.symm)]
theorem set_roomAt {rs : List (Int × Int)} {k : Nat} (n : Int) (hk : k < rs.length) (i : Nat) : nearZ (roomAt rs i) ≤ nearZ (roomAt (rs.set k (rs[k].1, addZ rs[k].2 n)) i) := by
  unfold roomAt
  by_cases e : i = k
  · subst e
    simp only [List.getD, List.getElem?_set_self hk, List.getElem?_eq_getElem hk, Option.getD_some]
    have h1 := nearZ_bd (rs[i].2)
    have h2 := (nearZ_bd n).1
    unfold addZ
    generalize nearZ rs[i].2 = a at *
    generalize nearZ n = b at *
    unfold nearZ
    omega
  · simp [List.getD, List.getElem?_set_ne (fun h => e h.symm)]
theorem addZ_near (a b : Int) : nearZ (addZ a b) = addZ a b := by
  unfold addZ nearZ
  omega
theorem set_ok {rs : List (Int × Int)} {k : Nat} (n : Int) (hk : k < rs.length) (h : okR rs = true) : okR (rs.set k (rs[k].1, addZ rs[k].2 n)) = true := by
  simp only [okR, Bool.and_eq_true, decide_eq_true_eq, List.all_eq_true] at h ⊢
  refine ⟨⟨fun r hr => ?_, by rw [set_if _ hk]; exact h.1.2⟩, by simpa using h.2⟩
  rcases List.mem_or_eq_of_mem_set hr with hr | rfl
  · exact h.1.1 r hr
  · have := h.1.1 _ (List.getElem_mem hk)
    simp only [goodR, Bool.and_eq_true, decide_eq_true_eq] at this ⊢
    exact ⟨this.1, addZ_near _ _⟩
theorem addZ_wf (a b : Int) : (Lit.int .i64 (addZ a b)).wf = true := by
  have h : addZ a b = nearZ (addZ a b) := (addZ_near a b).symm
  have h2 := nearZ_bd (addZ a b)
  rw [← h] at h2
  simp [Lit.wf, IntKind.min, IntKind.max, IntKind.signed, IntKind.bits]
  omega
theorem set_wf {rs : List (Int × Int)} {k : Nat} (n : Int) (hk : k < rs.length) (h : RoomsWf rs) : RoomsWf (rs.set k (rs[k].1, addZ rs[k].2 n)) := by
  intro r hr
  rcases List.mem_or_eq_of_mem_set hr with hr | rfl
  · exact h r hr
  · exact ⟨(h _ (List.getElem_mem hk)).1, addZ_wf _ _⟩
theorem set_least {rs : List (Int × Int)} {k : Nat} (n : Int) (hk : k < rs.length) (ws : List FW) : leastZ rs ws ≤ leastZ (rs.set k (rs[k].1, addZ rs[k].2 n)) ws :=
  leastZ_wide ws (by simp) (set_ifAt _ hk) (set_roomAt n hk)
theorem rooms_stored {W : World} {g k : Nat} {e : TypeId} {cur : Array Value} {rs : List (Int × Int)} (x : Int) (hB : Blk W g e cur) (hc : cur.toList.take (rs.length * 2) = roomCells rs) (hk : k < rs.length) :
    Reads (W.setCell ⟨g, k * 2 + 1, none⟩ (.int .i64 x)) (fun _ => True) (some ⟨g, 0, none⟩) (roomCells (rs.set k (rs[k].1, x))) := by
  have h := ((reads_of_blk (hB.set_ (k * 2 + 1) (.int .i64 x))).take (rs.length * 2)).mono (G := fun _ => True) (fun _ _ _ => trivial)
  rw [Array.toList_setIfInBounds, List.take_set, hc, ← rooms_set _ _ _ hk] at h
  exact h

section
variable {w : World} {A A' : Option Addr} {c c' : Nat} {rs : List (Int × Int)} {ws : List WV}
set_option maxRecDepth 20000 in
set_option maxHeartbeats 8000000 in
theorem rises_walk (hT : TzAt w) (hr : RoomsIn w A rs) (hw : WantsIn w A' ws) (v : WV) (hv : v.ok) (hvr : Reads w (fun _ => True) v.D (optCells v.ds)) (hwb : ws.length * 176 ≤ 140737488351232) (at_ n : Int) (hat : (Lit.int .i64 at_).wf = true) :
    Calls Tryd.prog 5 #[.slice A rs.length c, .slice A' ws.length c', .agg v.cs, .int .i64 at_, .int .i64 n] w fun e w' => e = .returned (.bool true) ∧ Below w.heap.size w w' := by
  obtain ⟨cs, m, f, D', dc, ds⟩ := v
  have hsz : cs.size = 16 := hv.size
  obtain ⟨c0, c1, c2, c3, c4, c5, c6, c7, c8, c9, c10, c11, c12, c13, c14, c15, rfl⟩ := cells16 hsz
  clear hsz
  have HV := Lib.hid hv
  have HVR := Lib.hid hvr
  have HR := Lib.hid hr
  have HW := Lib.hid hw
  have HT := Lib.hid hT
  have hlenr := hr.len
  have HWL := Lib.hid (wants_len fun v hv => (hw.all v hv).1)
  have HWO := Lib.hid (wants_one fun v hv => (hw.all v hv).1)
  have HFIN := Lib.hid fun (W2 : World) (v2 : Value) (ho : W2.ownsRow (w.heap.size + 1) 55 16 v2 (ws.length + 1) (wantCells ws ++ [c0, c1, c2, c3, c4, c5, c6, c7, c8, c9, c10, c11, c12, c13, c14, c15])) (hb : Below w.heap.size w W2) =>
    (show ∃ A3 cp, v2 = .slice A3 (ws.length + 1) cp ∧ WantsIn W2 A3 (ws ++ [⟨#[c0, c1, c2, c3, c4, c5, c6, c7, c8, c9, c10, c11, c12, c13, c14, c15], m, f, D', dc, ds⟩]) ∧ Below w.heap.size w W2 from by
      obtain ⟨A3, cp, e, h⟩ := own_readsN ho
      refine ⟨A3, cp, e, ⟨by simp; omega, by rw [wants_snoc]; exact h, fun v hv' => ?_⟩, hb⟩
      rcases List.mem_append.1 hv' with hv' | hv'
      · exact ⟨(hw.all v hv').1, (hw.all v hv').2.below hb (fun _ h _ => h)⟩
      · simp at hv'
        subst hv'
        exact ⟨hv, hvr.below hb (fun _ h _ => h)⟩)
  have HONE := Lib.hid (show ∀ u ∈ [c0, c1, c2, c3, c4, c5, c6, c7, c8, c9, c10, c11, c12, c13, c14, c15], u.oneCell' = true from one_of_all hv.one)
  clear hv hvr hr hw hT
  obtain ⟨i0, hi, hz0, hz1, hz2⟩ := info_parts infoWant
  have HB0 := Lib.hid (Blk.new w 55 #[c0, c1, c2, c3, c4, c5, c6, c7, c8, c9, c10, c11, c12, c13, c14, c15])
  have HEa := Lib.hid fun (_ : Unit) => (show ((w.alloc (.cells #[c0, c1, c2, c3, c4, c5, c6, c7, c8, c9, c10, c11, c12, c13, c14, c15] 55)).alloc (.cells #[] 55)).heap[w.heap.size + 1]? = some (.cells #[] 55) from by
    have := heap_alloc_new (w.alloc (.cells #[c0, c1, c2, c3, c4, c5, c6, c7, c8, c9, c10, c11, c12, c13, c14, c15] 55)) (.cells #[] 55)
    rwa [World.size_alloc] at this)
  have HEc := Lib.hid fun (_ : Unit) => (show (((w.alloc (.cells #[c0, c1, c2, c3, c4, c5, c6, c7, c8, c9, c10, c11, c12, c13, c14, c15] 55)).alloc (.cells #[c0, c1, c2, c3, c4, c5, c6, c7, c8, c9, c10, c11, c12, c13, c14, c15] 55)).alloc (.cells #[] 55)).heap[w.heap.size + 1 + 1]? = some (.cells #[] 55) from by
    have := heap_alloc_new ((w.alloc (.cells #[c0, c1, c2, c3, c4, c5, c6, c7, c8, c9, c10, c11, c12, c13, c14, c15] 55)).alloc (.cells #[c0, c1, c2, c3, c4, c5, c6, c7, c8, c9, c10, c11, c12, c13, c14, c15] 55)) (.cells #[] 55)
    rwa [World.size_alloc, World.size_alloc] at this)
  have HOb := Lib.hid fun (_ : Unit) => (show Blk (((w.alloc (.cells #[c0, c1, c2, c3, c4, c5, c6, c7, c8, c9, c10, c11, c12, c13, c14, c15] 55)).alloc (.cells #[] 55)).alloc (.cells #[c0, c1, c2, c3, c4, c5, c6, c7, c8, c9, c10, c11, c12, c13, c14, c15] 55)) (w.heap.size + 1 + 1) 55 #[c0, c1, c2, c3, c4, c5, c6, c7, c8, c9, c10, c11, c12, c13, c14, c15] from by
    have := Blk.new ((w.alloc (.cells #[c0, c1, c2, c3, c4, c5, c6, c7, c8, c9, c10, c11, c12, c13, c14, c15] 55)).alloc (.cells #[] 55)) 55 #[c0, c1, c2, c3, c4, c5, c6, c7, c8, c9, c10, c11, c12, c13, c14, c15]
    rwa [World.size_alloc, World.size_alloc] at this)
  have HOc := Lib.hid fun (_ : Unit) => (show Blk (((w.alloc (.cells #[c0, c1, c2, c3, c4, c5, c6, c7, c8, c9, c10, c11, c12, c13, c14, c15] 55)).alloc (.cells #[c0, c1, c2, c3, c4, c5, c6, c7, c8, c9, c10, c11, c12, c13, c14, c15] 55)).alloc (.cells #[] 55)) (w.heap.size + 1) 55 #[c0, c1, c2, c3, c4, c5, c6, c7, c8, c9, c10, c11, c12, c13, c14, c15] from by
    have := Blk.new (w.alloc (.cells #[c0, c1, c2, c3, c4, c5, c6, c7, c8, c9, c10, c11, c12, c13, c14, c15] 55)) 55 #[c0, c1, c2, c3, c4, c5, c6, c7, c8, c9, c10, c11, c12, c13, c14, c15]
    rw [World.size_alloc] at this
    exact this.alloc _)
  go_enter Tryd.func5, Tryd.ntmps5
  go_upto_region 1 with fail
  go_cut [11] (fun v wx => ∃ A3 cp, v = .slice A3 (ws.length + 1) cp ∧ WantsIn wx A3 (ws ++ [⟨#[c0, c1, c2, c3, c4, c5, c6, c7, c8, c9, c10, c11, c12, c13, c14, c15], m, f, D', dc, ds⟩]) ∧ Below w.heap.size w wx)
  case first =>
    go_region_held3 (fun W => W.cell? ⟨w.heap.size, 0, none⟩ = some c0 ∧ W.cell? ⟨w.heap.size, 1, none⟩ = some c1 ∧ W.cell? ⟨w.heap.size, 2, none⟩ = some c2 ∧ W.cell? ⟨w.heap.size, 3, none⟩ = some c3 ∧ W.cell? ⟨w.heap.size, 4, none⟩ = some c4 ∧ W.cell? ⟨w.heap.size, 5, none⟩ = some c5 ∧ W.cell? ⟨w.heap.size, 6, none⟩ = some c6 ∧ W.cell? ⟨w.heap.size, 7, none⟩ = some c7 ∧ W.cell? ⟨w.heap.size, 8, none⟩ = some c8 ∧ W.cell? ⟨w.heap.size, 9, none⟩ = some c9 ∧ W.cell? ⟨w.heap.size, 10, none⟩ = some c10 ∧ W.cell? ⟨w.heap.size, 11, none⟩ = some c11 ∧ W.cell? ⟨w.heap.size, 12, none⟩ = some c12 ∧ W.cell? ⟨w.heap.size, 13, none⟩ = some c13 ∧ W.cell? ⟨w.heap.size, 14, none⟩ = some c14 ∧ W.cell? ⟨w.heap.size, 15, none⟩ = some c15) (first | exact ⟨hkc.cell 0, hkc.cell 1, hkc.cell 2, hkc.cell 3, hkc.cell 4, hkc.cell 5, hkc.cell 6, hkc.cell 7, hkc.cell 8, hkc.cell 9, hkc.cell 10, hkc.cell 11, hkc.cell 12, hkc.cell 13, hkc.cell 14, hkc.cell 15⟩ | exact ⟨hkb.cell 0, hkb.cell 1, hkb.cell 2, hkb.cell 3, hkb.cell 4, hkb.cell 5, hkb.cell 6, hkb.cell 7, hkb.cell 8, hkb.cell 9, hkb.cell 10, hkb.cell 11, hkb.cell 12, hkb.cell 13, hkb.cell 14, hkb.cell 15⟩ | go_keep) ((first
      | (refine step_append_rd _ (by rfl) (.tmp 19) (.tmp 20) 23 (by rfl) (w.heap.size + 1) 55 i0 (.agg wantArr0) 16 176 Tryd.underlying23 hi hz0 hz1 hz2 rfl (by omega) _ 0 [] (by rfl) (own_empty _ _ _ _ _ (by omega) (by first | exact HEa.out () | exact (Below.heap_alloc _ _ _ (by simp)).trans (HEa.out ()) | exact HEc.out ())) (fun _ => True) A' ws.length c' (wantCells ws) (by rfl) HWL.out (by first | exact (HW.out.rd.alloc _).alloc _ | exact ((HW.out.rd.alloc _).alloc _).alloc _) HWO.out (by unfold maxLen; omega) (by omega) (by simp) ?_; intro v1 w1 hown1 hg1 hat1; clear hat1; rw [Nat.zero_add, List.nil_append] at hown1; have hkb : Blk w1 w.heap.size 55 #[c0, c1, c2, c3, c4, c5, c6, c7, c8, c9, c10, c11, c12, c13, c14, c15] := Blk.grown (by repeat (first | exact HB0.out | refine Blk.drew ?_ | refine Blk.alloc ?_ _)) hg1 (by simp [Value.ownBlock] <;> omega); have hb1 : Below w.heap.size w w1 := below_grown (by repeat (first | exact Below.refl _ _ | refine Below.drew ?_ | refine Below.alloc ?_ (by simp <;> omega) _)) (by simp <;> omega) hg1 (fun k hk => by simp [Value.ownBlock] at hk; omega); first | (have hrd1 : Reads w1 (fun _ => True) (some ⟨w.heap.size + 1 + 1, 0, none⟩) [c0, c1, c2, c3, c4, c5, c6, c7, c8, c9, c10, c11, c12, c13, c14, c15] := (reads_of_blk (g := w.heap.size + 1 + 1) (t := 55) (cs := #[c0, c1, c2, c3, c4, c5, c6, c7, c8, c9, c10, c11, c12, c13, c14, c15]) (Blk.grown (by exact HOb.out ()) hg1 (by simp [Value.ownBlock] <;> omega))).mono (G := fun _ => True) (fun _ _ _ => trivial)) | (have hthis : ((w.alloc (.cells #[c0, c1, c2, c3, c4, c5, c6, c7, c8, c9, c10, c11, c12, c13, c14, c15] 55)).alloc (.cells #[] 55)).drew.grownBy w1 (Value.slice (some ⟨w.heap.size + 1, 0, none⟩) 0 0).ownBlock := hg1) | (have hrd1 : Reads w1 (fun _ => True) (some ⟨w.heap.size + 1, 0, none⟩) [c0, c1, c2, c3, c4, c5, c6, c7, c8, c9, c10, c11, c12, c13, c14, c15] := (reads_of_blk (g := w.heap.size + 1) (t := 55) (cs := #[c0, c1, c2, c3, c4, c5, c6, c7, c8, c9, c10, c11, c12, c13, c14, c15]) (Blk.grown (by exact HOc.out ()) hg1 (by simp [Value.ownBlock] <;> omega))).mono (G := fun _ => True) (fun _ _ _ => trivial)))
      | (refine step_append_rd _ (by rfl) (.tmp 21) (.tmp 23) 23 (by rfl) (w.heap.size + 1) 55 i0 (.agg wantArr0) 16 176 Tryd.underlying23 hi hz0 hz1 hz2 rfl (by omega) v1 ws.length (wantCells ws) (by rfl) (by first | exact hown1 | exact own_alive hown1 (below_a1 _ _) | exact own_alive hown1 (below_a1 _ _).drew | exact own_alive hown1 (Below.refl _ _).drew) (fun _ => True) _ 1 1 [c0, c1, c2, c3, c4, c5, c6, c7, c8, c9, c10, c11, c12, c13, c14, c15] (by rfl) (by rfl) (by first | exact hrd1 | exact (reads_of_blk (Blk.new _ _ _)).mono (fun _ _ _ => trivial)) HONE.out (by unfold maxLen; omega) (by omega) (by have := hkb.lt; simp <;> omega) ?_; intro v2 w2 hown2 hg2 hat2; clear hat2; have hb2 : Below w.heap.size w w2 := below_grown (by repeat (first | exact hb1 | refine Below.drew ?_ | refine Below.alloc ?_ (by have := hb1.size; simp <;> omega) _)) (by have := hb1.size; simp <;> omega) hg2 (fun k hk => by have := (hown1.lt k hk).1; omega); have hkc : Blk w2 w.heap.size 55 #[c0, c1, c2, c3, c4, c5, c6, c7, c8, c9, c10, c11, c12, c13, c14, c15] := Blk.grown (by repeat (first | exact hkb | refine Blk.drew ?_ | refine Blk.alloc ?_ _)) hg2 (fun e => by have := (hown1.lt _ e.symm).1; omega))))
    all_goals (go_wp2_with fail; go_meet; exact HFIN.out _ _ hown2 hb2)
  case rest =>
    obtain ⟨A3, cp, rfl, hW3, hb3⟩ := hcut
    clear HFIN HONE HB0 HEa HEc HOb HOc hi hz0 hz1 hz2 i0 HWL HWO HV HVR
    have HM := Lib.hid (show leastZ rs (ws.map WV.fw) ≤ leastZ rs ((ws ++ [(⟨#[c0, c1, c2, c3, c4, c5, c6, c7, c8, c9, c10, c11, c12, c13, c14, c15], m, f, D', dc, ds⟩ : WV)]).map WV.fw) by rw [List.map_append]; exact leastZ_more _ _ _)
    have HL3 := Lib.hid (show (ws ++ [(⟨#[c0, c1, c2, c3, c4, c5, c6, c7, c8, c9, c10, c11, c12, c13, c14, c15], m, f, D', dc, ds⟩ : WV)]).length = ws.length + 1 by simp)
    generalize ws ++ [(⟨#[c0, c1, c2, c3, c4, c5, c6, c7, c8, c9, c10, c11, c12, c13, c14, c15], m, f, D', dc, ds⟩ : WV)] = wx at *
    have HW3 := Lib.hid hW3
    have HB3 := Lib.hid hb3
    have HLG := Lib.hid (large_any (c' := cp) hW3)
    rw [HL3.out] at HLG
    clear hW3 hb3
    cases hb : largeB wx with
    | true =>
      rw [hb] at HLG
      go_wp2_with fail
      refine (HLG.out).mono ?_
      rintro e w' ⟨rfl, rfl⟩
      go_wp2_with fail
      refine (lives_any wc (HT.out.below HB3.out)).mono ?_
      rintro e wz ⟨rfl, hb⟩
      have HBZ := Lib.hid (HB3.out.trans (hb.mono HB3.out.size))
      clear hb
      go_wp2_with fail
      go_ret
      exact ⟨rfl, HBZ.out⟩
    | false =>
      rw [hb] at HLG
      have hwl := large_len hb
      rw [HL3.out] at hwl
      cases hok : okR rs with
      | false =>
        have HOK := Lib.hid hok
        clear hok
        go_wp2_with fail
        refine (HLG.out).mono ?_
        rintro e w' ⟨rfl, rfl⟩
        go_wp2_with fail
        refine (rcheck_any A c rs HR.out.len (HR.out.below HB3.out).rd).mono ?_
        rintro e w4 ⟨rfl, hb4⟩
        rw [HOK.out]
        have HB4 := Lib.hid (HB3.out.trans (hb4.mono HB3.out.size))
        clear hb4
        go_wp2_with fail
        refine (lives_any w4 (HT.out.below HB4.out)).mono ?_
        rintro e wz ⟨rfl, hb⟩
        have HBZ := Lib.hid (HB4.out.trans (hb.mono HB4.out.size))
        clear hb
        go_wp2_with fail
        go_ret
        exact ⟨rfl, HBZ.out⟩
      | true =>
        have HOK := Lib.hid hok
        have h10 := okR_len hok
        clear hok
        by_cases hneg : n < 0
        · go_wp2_with fail
          refine (HLG.out).mono ?_
          rintro e w' ⟨rfl, rfl⟩
          go_wp2_with fail
          refine (rcheck_any A c rs HR.out.len (HR.out.below HB3.out).rd).mono ?_
          rintro e w4 ⟨rfl, hb4⟩
          rw [HOK.out]
          have HB4 := Lib.hid (HB3.out.trans (hb4.mono HB3.out.size))
          clear hb4
          go_wp2_with fail
          refine (lives_any w4 (HT.out.below HB4.out)).mono ?_
          rintro e wz ⟨rfl, hb⟩
          have HBZ := Lib.hid (HB4.out.trans (hb.mono HB4.out.size))
          clear hb
          go_wp2_with fail
          go_ret
          exact ⟨rfl, HBZ.out⟩
        · have HPOS := Lib.hid (show 0 ≤ n by omega)
          have HN := Lib.hid (show ws.length ≤ 1024 by omega)
          have HN3 := Lib.hid (show wx.length ≤ 1024 by rw [HL3.out]; omega)
          obtain ⟨iR, hi, hz0, hz1, hz2⟩ := info_parts infoRoom
          go_wp2_with fail
          refine (HLG.out).mono ?_
          rintro e w' ⟨rfl, rfl⟩
          go_wp2_with fail
          refine (rcheck_any A c rs HR.out.len (HR.out.below HB3.out).rd).mono ?_
          rintro e w4 ⟨rfl, hb4⟩
          rw [HOK.out]
          have HB4 := Lib.hid (HB3.out.trans (hb4.mono HB3.out.size))
          have HW4 := Lib.hid (HW3.out.below hb4)
          clear hb4
          go_wp2_with fail
          refine (most_ok (HR.out.below HB4.out) (HW.out.below HB4.out) HOK.out HN.out (HT.out.below HB4.out)).mono ?_
          rintro e w5 ⟨rfl, hb5⟩
          have HB5 := Lib.hid (HB4.out.trans (hb5.mono HB4.out.size))
          have HW5 := Lib.hid (HW4.out.below hb5)
          clear hb5
          go_wp2_with fail
          have H := most_ok (c := c) (c' := cp) (HR.out.below HB5.out) HW5.out HOK.out HN3.out (HT.out.below HB5.out)
          rw [HL3.out] at H
          refine H.mono ?_
          clear H
          rintro e w6 ⟨rfl, hb6⟩
          have HB6 := Lib.hid (HB5.out.trans (hb6.mono HB5.out.size))
          clear hb6
          have hle := HM.out
          have hE : (w6.alloc (.cells #[] 57)).ownsRow w6.heap.size 57 2 (.slice (some ⟨w6.heap.size, 0, none⟩) 0 0) 0 [] := own_empty _ _ _ _ _ (Nat.le_refl _) (heap_alloc_new w6 _)
          go_wp2_with (refine wpList_append_rd _ (by rfl) (.tmp 49) (.tmp 50) 22 rfl w6.heap.size 57 iR (.agg #[.int .i64 0, .int .i64 0]) 2 16 Tryd.underlying22 hi hz0 hz1 hz2 rfl (by omega) _ 0 [] (by rfl) hE (fun _ => True) A rs.length c (roomCells rs) (by rfl) (rooms_len rs) ((HR.out.rd.below HB6.out (fun _ h _ => h)).alloc _) (rooms_one rs) (by unfold maxLen; omega) (by omega) (by simp) ?_)
          intro v7 w7 hown7 hg7 hat7
          have hb7 : Below w6.heap.size w6 w7 := below_grown (below_a1 _ _) (by simp) hg7 (fun k hk => by simp [Value.ownBlock] at hk; omega)
          have HB7 := Lib.hid (HB6.out.trans (hb7.mono HB6.out.size))
          clear hat7 hg7 hE
          by_cases hin : 0 ≤ at_ ∧ at_ < rs.length
          · obtain ⟨k, rfl⟩ : ∃ k : Nat, at_ = k := ⟨at_.toNat, by omega⟩
            obtain ⟨_, hk⟩ := hin
            have hk : k < rs.length := by omega
            rcases hown7.2 with ⟨rfl, h0⟩ | ⟨g, cap, cur, rfl, hge, hh, hnc, hcm, hcs, hct⟩
            · omega
            · have hB7 : Blk w7 g 57 cur := hh
              have hcl := hown7.cells (g := g) rfl (k * 2 + 1) (.int .i64 rs[k].2) (by
                have := flat_get (fun r : Int × Int => [Value.int .i64 r.1, .int .i64 r.2]) 2 rs (fun _ _ => rfl) k hk 1 (by omega)
                exact this)
              rw [addr_add rfl, Nat.zero_add] at hcl
              have hfz := hB7.frozen (k * 2 + 1)
              have HB8 := Lib.hid (show Below w.heap.size w (w7.setCell ⟨g, k * 2 + 1, none⟩ (.int .i64 (addZ rs[k].2 n))) from (HB7.out).setCell (by show w.heap.size ≤ g; have := HB6.out.size; omega) _)
              have HRD := Lib.hid (rooms_stored (addZ rs[k].2 n) hB7 hct hk)
              have HR8 := Lib.hid (show RoomsIn (w7.setCell ⟨g, k * 2 + 1, none⟩ (.int .i64 (addZ rs[k].2 n))) (some ⟨g, 0, none⟩) (rs.set k (rs[k].1, addZ rs[k].2 n)) from ⟨by simp; omega, HRD.out, set_wf n hk HR.out.wf⟩)
              have HO8 := Lib.hid (set_ok n hk HOK.out)
              have hle2 := set_least n hk (ws.map WV.fw)
              have HLN := Lib.hid (show (rs.set k (rs[k].1, addZ rs[k].2 n)).length = rs.length by simp)
              generalize rs.set k (rs[k].1, addZ rs[k].2 n) = rs2 at *
              generalize rs[k].2 = x at *
              clear HRD hown7 hcs hct hh hB7
              have hk1 : (k : Int) < rs.length := by omega
              go_wp2_with (go_at_call 18; refine (radd_any _ _ _).mono ?_; rintro e w' ⟨rfl, rfl⟩)
              generalize w7.setCell ⟨g, k * 2 + 1, none⟩ (.int .i64 (addZ x n)) = w8 at *
              have H := most_ok (c := cap) (c' := c') HR8.out (HW.out.below HB8.out) HO8.out HN.out (HT.out.below HB8.out)
              rw [HLN.out] at H
              refine H.mono ?_
              clear H
              rintro e w9 ⟨rfl, hb9⟩
              have HB9 := Lib.hid (HB8.out.trans (hb9.mono HB8.out.size))
              clear hb9
              go_wp2_with fail
              refine (lives_any w9 (HT.out.below HB9.out)).mono ?_
              rintro e w10 ⟨rfl, hb10⟩
              have HB10 := Lib.hid (HB9.out.trans (hb10.mono HB9.out.size))
              clear hb10
              go_wp2_with fail
              go_ret
              exact ⟨by simp, HB10.out⟩
          · obtain ⟨A7, c7, rfl, hrd7⟩ := own_readsN hown7
            have HR7 := Lib.hid (show RoomsIn w7 A7 rs from ⟨HR.out.len, hrd7, HR.out.wf⟩)
            clear hown7 hrd7
            have hle2 := Int.le_refl (leastZ rs (ws.map WV.fw))
            by_cases h0 : 0 ≤ at_
            · have h1 : ¬ at_ < rs.length := fun h => hin ⟨h0, h⟩
              go_wp2_with fail
              refine (most_ok HR7.out (HW.out.below HB7.out) HOK.out HN.out (HT.out.below HB7.out)).mono ?_
              rintro e w9 ⟨rfl, hb9⟩
              have HB9 := Lib.hid (HB7.out.trans (hb9.mono HB7.out.size))
              clear hb9
              go_wp2_with fail
              refine (lives_any w9 (HT.out.below HB9.out)).mono ?_
              rintro e w10 ⟨rfl, hb10⟩
              have HB10 := Lib.hid (HB9.out.trans (hb10.mono HB9.out.size))
              clear hb10
              go_wp2_with fail
              go_ret
              exact ⟨by simp, HB10.out⟩
            · go_wp2_with fail
              refine (most_ok HR7.out (HW.out.below HB7.out) HOK.out HN.out (HT.out.below HB7.out)).mono ?_
              rintro e w9 ⟨rfl, hb9⟩
              have HB9 := Lib.hid (HB7.out.trans (hb9.mono HB7.out.size))
              clear hb9
              go_wp2_with fail
              refine (lives_any w9 (HT.out.below HB9.out)).mono ?_
              rintro e w10 ⟨rfl, hb10⟩
              have HB10 := Lib.hid (HB9.out.trans (hb10.mono HB9.out.size))
              clear hb10
              go_wp2_with fail
              go_ret
              exact ⟨by simp, HB10.out⟩
end
end Go.Proofs.YtpbghlobkdjpiaaDoor
