/-
  Streams: Next. No condition but that the table of least lengths reads as it is laid.
-/
import Derived.Test.YteokhnkipandbaaDoorFrameH
namespace Go.Proofs.YteokhnkipandbaaDoor
open Go.ChangeShapes Go.WideShapes Go.ChangeAt Go.RowKit

theorem results_cell_tmp_cell {P : Program} {fn : Func} {p q r : Tmp} {ty ty' : TypeId} (h : fn.results = #[.cell p ty, .tmp q, .cell r ty']) (tmps : Array Value) (w : World) (g g' : Nat) (t t' : TypeId) (cs cs' : Array Value) (fr fr' : Nat × Nat) (d d' : TypeDesc)
    (hp : tmps.getD p undef = .pointer (some ⟨g, 0, none⟩)) (hp' : tmps.getD r undef = .pointer (some ⟨g', 0, none⟩)) (hg : w.heap[g]? = some (.cells cs t fr)) (hg' : w.heap[g']? = some (.cells cs' t' fr'))
    (hu : P.underlying ty = some d) (hd : (match d with | .struct _ | .array _ _ => true | _ => false) = true) (hi : (P.info? ty).map (·.size) = some cs.size)
    (hu' : P.underlying ty' = some d') (hd' : (match d' with | .struct _ | .array _ _ => true | _ => false) = true) (hi' : (P.info? ty').map (·.size) = some cs'.size) :
    (results fn tmps).run P w = .ok (.tuple #[.agg cs, tmps.getD q undef, .agg cs']) w := by
  have h1 : tmps[p]?.getD undef = .pointer (some ⟨g, 0, none⟩) := by simpa using hp
  have h2 : tmps[r]?.getD undef = .pointer (some ⟨g', 0, none⟩) := by simpa using hp'
  simp [results, h, h1, h2, asAddr, run_loadVar_row w g t ty cs fr d hg hu hd hi, run_loadVar_row w g' t' ty' cs' fr' d' hg' hu' hd' hi']

/-- what a message's answer is, where there is none -/
def nobody : Value := .tuple #[.agg msgNone, .bool false, .agg noteNone]
theorem noteNone_one : noteNone.all (·.oneCell') = true := by simp [noteNone, Value.oneCell']
theorem msgNone_one : msgNone.all (·.oneCell') = true := by simp [msgNone, Value.oneCell']

set_option maxHeartbeats 4000000 in
theorem next_nobody (w : World) : Calls Tryd.prog 41 #[.pointer none] w fun e w' => e = .returned nobody ∧ Below w.heap.size w w' := by
  have hM := (Blk.new w 61 msgNone).alloc (.cells noteNone 68)
  have hN := Blk.new1 w (.cells msgNone 61) 68 noteNone
  have hb := below_a2 w (.cells msgNone 61) (.cells noteNone 68)
  have hM1 := hM.setRow_ msgNone
  have hN1 := hN.farRow (k := w.heap.size) (by omega) msgNone
  have hM2 := hM1.farRow (k := w.heap.size + 1) (by omega) noteNone
  have hN2 := hN1.setRow_ noteNone
  have hb2 := below_setRow (below_setRow hb (g := w.heap.size) (Nat.le_refl _) msgNone) (g := w.heap.size + 1) (by omega) noteNone
  unfold msgNone noteNone at *
  have HM := Lib.hid hM2
  have HN := Lib.hid hN2
  clear hM2 hN2
  go_enter Tryd.func41, Tryd.ntmps41
  go_wp2_with (first | (refine wpList_store_blk (by rfl) 61 (.tmp 2) (.tmp 11) rfl w.heap.size #[.int .i64 0, .slice none 0 0] (by rfl) (by rfl) 61 _ hM (by kernel_rfl) (by rfl) (msg_one _ _ _ _) ?_) |
    (refine wpList_store_blk (by rfl) 68 (.tmp 4) (.tmp 12) rfl (w.heap.size + 1) #[.int .i64 0, .int .i64 0, .slice none 0 0] (by rfl) (by rfl) 68 _ hN1 (by kernel_rfl) (by rfl) (note_one _ _ _ _ _) ?_))
  refine bodyPost_ret (results_cell_tmp_cell rfl _ _ _ _ 61 68 #[.int .i64 0, .slice none 0 0] #[.int .i64 0, .int .i64 0, .slice none 0 0] (0, 0) (0, 0) _ _ (by simp [Act.put]) (by simp [Act.put]) HM.out HN.out Tryd.underlying61 rfl (by kernel_rfl) Tryd.underlying68 rfl (by kernel_rfl)) rfl ?_
  exact ⟨by simp [Act.put, nobody, msgNone, noteNone], hb2⟩

theorem results_cell1 {P : Program} {fn : Func} {p : Tmp} {ty : TypeId} (h : fn.results = #[.cell p ty]) (tmps : Array Value) (w : World) (g : Nat) (t : TypeId) (cs : Array Value) (fr : Nat × Nat) (d : TypeDesc)
    (hp : tmps.getD p undef = .pointer (some ⟨g, 0, none⟩)) (hg : w.heap[g]? = some (.cells cs t fr))
    (hu : P.underlying ty = some d) (hd : (match d with | .struct _ | .array _ _ => true | _ => false) = true) (hi : (P.info? ty).map (·.size) = some cs.size) :
    (results fn tmps).run P w = .ok (.agg cs) w := by
  have h1 : tmps[p]?.getD undef = .pointer (some ⟨g, 0, none⟩) := by simpa using hp
  simp [results, h, h1, asAddr, run_loadVar_row w g t ty cs fr d hg hu hd hi]

set_option maxRecDepth 10000 in
set_option maxHeartbeats 4000000 in
theorem told_any {w : World} {g : Nat} {x : Value} {code sub : Int} {A : Option Addr} {c : Nat} {d : List UInt8} {F : Nat → Prop} (hB : Blk w g 141 #[x, .int .i64 code, .int .i64 sub, .slice A d.length c]) (hr : Reads w F A (d.map vb)) (hd : d.length ≤ 140737488355328) :
    Calls Tryd.prog 97 #[.pointer (some ⟨g, 0, none⟩)] w fun e w' => ∃ v, e = .returned (.agg #[.int .i64 code, .int .i64 sub, v]) ∧ w'.ownsRow w.heap.size 5 1 v d.length (d.map vb) ∧ Below w.heap.size w w' := by
  have hb1 := below_a1 w (.cells noteNone 68)
  have hb2 := below_a2 w (.cells noteNone 68) (.cells #[.int .i64 code, .int .i64 sub, .slice A d.length c] 68)
  have hN2 := (Blk.new w 68 noteNone).alloc (.cells #[.int .i64 code, .int .i64 sub, .slice A d.length c] 68)
  have hO2 := Blk.new1 w (.cells noteNone 68) 68 #[.int .i64 code, .int .i64 sub, .slice A d.length c]
  obtain ⟨_, c1, c2, c3, _⟩ := blk4 (hB.alloc (.cells noteNone 68))
  have hr2 := (hr.alloc (.cells noteNone 68)).alloc (.cells #[.int .i64 code, .int .i64 sub, .slice A d.length c] 68)
  obtain ⟨_, _, o2, _, _, f2⟩ := blk3 hO2
  unfold noteNone at *
  clear hB hr hb1
  go_enter Tryd.func97, Tryd.ntmps97
  go_wp2_with fail
  refine (clone_u8 A c d F _ hd hr2).mono ?_
  rintro e w3 ⟨v, rfl, hown, hb⟩
  obtain ⟨A1, c1', hv, -⟩ := own_reads hown
  subst hv
  have hN3 := hN2.below hb hN2.lt
  have hO3 := hO2.below hb hO2.lt
  have hb3 := hb2.trans (hb.mono hb2.size)
  have hO4 := hO3.set_ 2 (.slice A1 d.length c1')
  have hO4' : Blk (w3.setCell ⟨w.heap.size + 1, 2, none⟩ (.slice A1 d.length c1')) (w.heap.size + 1) 68 #[.int .i64 code, .int .i64 sub, .slice A1 d.length c1'] := by simpa using hO4
  have hN4 := hN3.far (p := ⟨w.heap.size + 1, 2, none⟩) (by simp) (.slice A1 d.length c1')
  have hN5 := hN4.setRow_ #[.int .i64 code, .int .i64 sub, .slice A1 d.length c1']
  have hb5 := below_setRow (hb3.setCell (p := ⟨w.heap.size + 1, 2, none⟩) (by simp) (.slice A1 d.length c1')) (g := w.heap.size) (Nat.le_refl _) #[.int .i64 code, .int .i64 sub, .slice A1 d.length c1']
  have hown4 := own_only hown ((Only.refl (fun k => k = w.heap.size + 1) w3).setCell (p := ⟨w.heap.size + 1, 2, none⟩) (fun _ => rfl) (.slice A1 d.length c1')) (fun k hk e => by have := (hown.lt k hk).1; simp at this; omega)
  have hown5 := own_mono (own_only hown4 (only_setRow _ w.heap.size #[.int .i64 code, .int .i64 sub, .slice A1 d.length c1']) (fun k hk e => by have := (hown4.lt k hk).1; simp at this; omega)) hb2.size
  have HO := Lib.hid fun (_ : Unit) => hown5
  have HB := Lib.hid fun (_ : Unit) => hb5
  have HN := Lib.hid fun (_ : Unit) => hN5
  obtain ⟨_, _, q2, _, _, g2⟩ := blk3 hO3
  obtain ⟨r0, r1, r2, _, _, _⟩ := blk3 hO4'
  clear hown hown4 hown5 hN5 hb5 hb3 hN3 hO3 hO4 hO4' hb o2 f2 c1 c2 c3 hr2 hN2 hO2 hb2
  go_wp2_with (refine wpList_store_blk (by rfl) 68 (.tmp 2) (.tmp 12) rfl w.heap.size #[.int .i64 code, .int .i64 sub, .slice A1 d.length c1'] (by rfl) (by rfl) 68 _ hN4 (by kernel_rfl) (by rfl) (note_one _ _ _ _ _) ?_)
  refine bodyPost_ret (results_cell1 rfl _ _ _ 68 #[.int .i64 code, .int .i64 sub, .slice A1 d.length c1'] (0, 0) _ (by simp [Act.put]) (HN.out ()) Tryd.underlying68 rfl (by kernel_rfl)) rfl ?_
  exact ⟨_, rfl, HO.out (), HB.out ()⟩

section
variable {B : Nat} {w : World} {g : Nat} {v : Value} {bs : List UInt8} {sub : Int} {dv : Value}

set_option maxRecDepth 10000 in
set_option maxHeartbeats 4000000 in
theorem next_part (h : Strm B w g v bs 0 sub dv) (hL : LeastAt w) (hm : bs.length ≤ 65536) (hc : (headR bs).code = 0) (hk : (headR bs).k = 0 ∨ (bs.length : Int) < (headR bs).n) :
    Calls Tryd.prog 41 #[.pointer (some ⟨g, 0, none⟩)] w fun e w' => e = .returned nobody ∧ Below w.heap.size w w' := by
  have hb2 := below_a2 w (.cells msgNone 61) (.cells noteNone 68)
  have hM2 := (Blk.new w 61 msgNone).alloc (.cells noteNone 68)
  have hN2 := Blk.new1 w (.cells msgNone 61) 68 noteNone
  have h2 := h.below hb2
  obtain ⟨A1, c1, hv, hc1, _, _, hr2⟩ := own_reads h2.own
  subst hv
  obtain ⟨d0, d1, _⟩ := blk4 h2.blk
  have HH := Lib.hid (head_any A1 c1 bs _ _ hc1 (by omega) hr2 (hL.below hb2))
  clear hr2 hc1 hL h
  have hk1 : ¬ (0 : Int) ≠ 0 := by simp
  generalize headR bs = r at *
  obtain ⟨k, n, code, sub1, d⟩ := r
  simp only at hc hk
  subst hc
  simp only [HR.val] at HH
  unfold msgNone noteNone at *
  go_enter Tryd.func41, Tryd.ntmps41
  go_wp2_with fail
  refine HH.out.mono ?_
  rintro e w3 ⟨v1, rfl, hp⟩
  obtain ⟨A2, c2, hv2, -⟩ := own_reads hp.own
  subst hv2
  have hb3 := hb2.trans (hp.bel.mono hb2.size)
  have hM3 := hM2.below hp.bel hM2.lt
  have hN3 := hN2.below hp.bel hN2.lt
  have h3 := h2.below hp.bel
  have al := below_a1 w3 (.cells #[.int .i64 0, .int .i64 sub1, .slice A2 d.length c2] 68)
  have hb4 := hb3.trans (al.mono hb3.size)
  have hM4 := hM3.alloc (.cells #[.int .i64 0, .int .i64 sub1, .slice A2 d.length c2] 68)
  have hN4 := hN3.alloc (.cells #[.int .i64 0, .int .i64 sub1, .slice A2 d.length c2] 68)
  have h4 := h3.below al
  obtain ⟨x0, x1, _⟩ := blk4 h4.blk
  have hN5 := hN4.farRow (k := w.heap.size) (by omega) #[.int .i64 0, .slice none 0 0]
  have hM6 := (hM4.setRow_ #[.int .i64 0, .slice none 0 0]).farRow (k := w.heap.size + 1) (by omega) #[.int .i64 0, .int .i64 0, .slice none 0 0]
  have hN6 := hN5.setRow_ #[.int .i64 0, .int .i64 0, .slice none 0 0]
  have hb6 := below_setRow (below_setRow hb4 (g := w.heap.size) (Nat.le_refl _) #[.int .i64 0, .slice none 0 0]) (g := w.heap.size + 1) (by omega) #[.int .i64 0, .int .i64 0, .slice none 0 0]
  have HM := Lib.hid fun (_ : Unit) => hM6
  have HN := Lib.hid fun (_ : Unit) => hN6
  have HB := Lib.hid fun (_ : Unit) => hb6
  clear hM6 hN6 hb6 hb4 hb3 al hM3 hN3 h3 h2 hp hM2 hN2 hb2 d0 d1 h4
  have hcase : k = 0 ∨ (¬ k = 0 ∧ (bs.length : Int) < n) := by
    rcases hk with h | h
    · exact .inl h
    · by_cases h0 : k = 0
      · exact .inl h0
      · exact .inr ⟨h0, h⟩
  clear hk hk1
  rcases hcase with rfl | ⟨hk0, hkn⟩
  all_goals
    go_wp2_with (first | (refine wpList_store_blk (by rfl) 61 (.tmp 2) (.tmp 55) rfl w.heap.size #[.int .i64 0, .slice none 0 0] (by rfl) (by rfl) 61 _ hM4 (by kernel_rfl) (by rfl) (msg_one _ _ _ _) ?_) |
      (refine wpList_store_blk (by rfl) 68 (.tmp 4) (.tmp 56) rfl (w.heap.size + 1) #[.int .i64 0, .int .i64 0, .slice none 0 0] (by rfl) (by rfl) 68 _ hN5 (by kernel_rfl) (by rfl) (note_one _ _ _ _ _) ?_))
    refine bodyPost_ret (results_cell_tmp_cell rfl _ _ _ _ 61 68 #[.int .i64 0, .slice none 0 0] #[.int .i64 0, .int .i64 0, .slice none 0 0] (0, 0) (0, 0) _ _ (by simp [Act.put]) (by simp [Act.put]) (HM.out ()) (HN.out ()) Tryd.underlying61 rfl (by kernel_rfl) Tryd.underlying68 rfl (by kernel_rfl)) rfl ?_
    exact ⟨by simp [Act.put, nobody, msgNone, noteNone], HB.out ()⟩
end
end Go.Proofs.YteokhnkipandbaaDoor
