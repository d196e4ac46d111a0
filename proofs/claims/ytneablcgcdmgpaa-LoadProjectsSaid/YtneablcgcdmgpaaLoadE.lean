/-
  Loads: whether two rows are the same; the loads of wants. Under: what is asked of stands in memory.
-/
import Derived.Test.YtneablcgcdmgpaaLoadD
import Derived.BigQuiet
import Derived.Deep.RegionHeld3
namespace Go.Proofs.Ytneablcgcdmgpaa
open Go.ChangeShapes Go.WideShapes Go.ChangeAt Go.RowKit Go.Maps

theorem load_at {w : World} {F : Nat → Prop} {A : Option Addr} {s : LS} (hr : Reads w F A (lcells s)) {k : Nat} (hk : k < s.length) :
    ∃ b off, A = some ⟨b, off, none⟩ ∧ b < w.heap.size ∧ F b ∧ w.cell? ⟨b, off + k * 2, none⟩ = some (.int .i64 s[k].1) ∧ w.cell? ⟨b, off + k * 2 + 1, none⟩ = some (.int .i64 s[k].2) := by
  obtain ⟨b, off, e, hF, hl, hrg⟩ := Reads.rangeAt (f := fun p : Int × Int => [Value.int .i64 p.1, .int .i64 p.2]) (sz := 2) (by exact hr) (by omega) (fun _ _ => rfl) hk
  exact ⟨b, off, e, hl, hF, hrg 0 _ rfl, hrg 1 _ rfl⟩
set_option maxRecDepth 10000 in
theorem same_any {w : World} {F G : Nat → Prop} {A B : Option Addr} {c d : Nat} {s : LS} (h1 : Reads w F A (lcells s)) (h2 : Reads w G B (lcells s)) (hl : s.length ≤ 1000000) :
    Calls Try.prog 14 #[.slice A s.length c, .slice B s.length d] w fun e w' => e = .returned (.bool true) ∧ Below w.heap.size w w' := by
  have H1 := Lib.hid h1
  have H2 := Lib.hid h2
  clear h1 h2
  go_enter Try.func14, Try.ntmps14
  go_wp2_with fail
  go_loopw [5] (fun i wr => ∃ k : Nat, k ≤ s.length ∧ i = .int .i64 k ∧ Below w.heap.size w wr) (fun i _ => s.length - (intOf i).toNat)
  case atStart => exact ⟨0, Nat.zero_le _, rfl, Below.refl _ _⟩
  case round =>
    obtain ⟨k, hk, rfl, hb⟩ := hrel
    by_cases hkl : k < s.length
    · obtain ⟨b1, o1, rfl, hl1, _, p0, p1⟩ := load_at H1.out hkl
      obtain ⟨b2, o2, rfl, hl2, _, q0, q1⟩ := load_at H2.out hkl
      have p0 := (hb.cell (p := ⟨b1, o1 + k * 2, none⟩) hl1).trans p0
      have p1 := (hb.cell (p := ⟨b1, o1 + k * 2 + 1, none⟩) hl1).trans p1
      have q0 := (hb.cell (p := ⟨b2, o2 + k * 2, none⟩) hl2).trans q0
      have q1 := (hb.cell (p := ⟨b2, o2 + k * 2 + 1, none⟩) hl2).trans q1
      generalize s[k] = p at *
      obtain ⟨ky, vl⟩ := p
      simp only at *
      go_wp2_with fail
      go_quiet (fail)
      go_wp2_with fail
      go_roundw
      case rel => exact ⟨k + 1, by omega, by go_num, below_drewN' hb _⟩
      case measure => simp [intOf]; omega
    · obtain rfl : k = s.length := by omega
      go_wp2_with fail
      go_ret
      exact ⟨rfl, hb⟩

theorem face_run (d0 d1 d2 d3 d4 d5 d6 d7 d8 d9 : Value) (f : Int) (w : World) : Sem.run Try.prog (Instr.field 51 (.agg #[d0, d1, d2, d3, d4, d5, d6, d7, d8, d9, .int .i64 f]) 1) w = .ok (.int .i64 f) w := by kernel_rfl

/-! ### wants -/
def WV.at_ (v : WV) : Int := match v.cs[15]? with
  | some (Value.int _ k) => k
  | _ => 0
structure WantsIn (w : World) (A : Option Addr) (ws : List WV) : Prop where
  len : ws.length ≤ 9223372036854775807
  rd : Reads w (fun _ => True) A (wantCells ws)
  all : ∀ v ∈ ws, v.ok ∧ v.cs[15]? = some (.int .i64 v.at_) ∧ Reads w (fun _ => True) v.D (optCells v.ds)
theorem WantsIn.below {w w' : World} {A : Option Addr} {ws : List WV} (h : WantsIn w A ws) (hb : Below w.heap.size w w') : WantsIn w' A ws := ⟨h.len, h.rd.below hb (fun _ h _ => h), fun v hv => ⟨(h.all v hv).1, (h.all v hv).2.1, (h.all v hv).2.2.below hb (fun _ h _ => h)⟩⟩
/-- which interface, how much -/
def WV.goes (v : WV) : Int := v.takes v.at_
theorem WV.goes_wf {v : WV} (h : v.ok) : (Lit.int .i64 v.goes).wf = true := by
  unfold WV.goes WV.takes
  split
  · rename_i hk
    have hk2 : v.at_.toNat < v.ds.length := by omega
    simp only [List.getD, List.getElem?_eq_getElem hk2, Option.getD_some]
    exact (h.all _ (List.getElem_mem hk2)).wf
  · exact h.wf
theorem WV.took_form {v : WV} (h : v.ok) : ∃ d0 d1 d2 d3 d4 d5 d6 d7 d8 d9, v.took v.at_ = #[d0, d1, d2, d3, d4, d5, d6, d7, d8, d9, .int .i64 v.goes] := by
  unfold WV.took WV.goes WV.takes
  by_cases hk : 0 ≤ v.at_ ∧ v.at_ < v.ds.length
  · have hk2 : v.at_.toNat < v.ds.length := by omega
    rw [if_pos hk, if_pos hk]
    simp only [List.getD, List.getElem?_eq_getElem hk2, Option.getD_some]
    have ho := h.all _ (List.getElem_mem hk2)
    obtain ⟨d0, d1, d2, d3, d4, d5, d6, d7, d8, d9, d10, e⟩ := cells11 ho.size
    have hf := ho.face
    rw [e] at hf
    simp at hf
    subst hf
    exact ⟨_, _, _, _, _, _, _, _, _, _, e⟩
  · rw [if_neg hk, if_neg hk]
    obtain ⟨c0, c1, c2, c3, c4, c5, c6, c7, c8, c9, c10, c11, c12, c13, c14, c15, e⟩ := cells16 h.size
    have hf := h.face
    rw [e] at hf ⊢
    simp at hf
    subst hf
    exact ⟨_, _, _, _, _, _, _, _, _, _, rfl⟩
def projL (ws : List WV) : LD := ws.foldl (fun x v => x.add v.goes v.n) ⟨[], false⟩
theorem projL_ok (ws : List WV) : (projL ws).ok := by
  suffices h : ∀ (ws : List WV) (x : LD), x.ok → (ws.foldl (fun x v => x.add v.goes v.n) x).ok from h ws _ LD.ok_nil
  intro ws
  induction ws with
  | nil => intro x h; exact h
  | cons v ws ih => intro x h; exact ih _ (LD.ok_add h _ _)
theorem projL_take {ws : List WV} {k : Nat} (hk : k < ws.length) : projL (ws.take (k + 1)) = (projL (ws.take k)).add ws[k].goes ws[k].n := by
  unfold projL
  rw [List.take_succ_eq_append_getElem hk, List.foldl_append]
  rfl
set_option maxRecDepth 20000 in
set_option maxHeartbeats 8000000 in
theorem project_any {w : World} {A : Option Addr} {c : Nat} {ws : List WV} (hw : WantsIn w A ws) (hm : ws.length ≤ 1000) :
    Calls Try.prog 21 #[.slice A ws.length c] w fun e w' => ∃ g b, e = .returned (.pointer (some ⟨g, 0, none⟩)) ∧ LoadsAt w' g b ws.length (projL ws) ∧ Below w.heap.size w w' ∧ w.heap.size ≤ g ∧ w.heap.size ≤ b := by
  have HW := Lib.hid hw
  have hlen := hw.len
  clear hw
  go_enter Try.func21, Try.ntmps21
  go_wp2_with fail
  refine (new_any _).mono ?_
  rintro e w1 ⟨g, b, rfl, hl, hb, hg, hbb⟩
  have HL := Lib.hid hl
  have HB := Lib.hid hb
  clear hl hb
  go_wp2_with fail
  go_loopw [9] (fun i wr => ∃ k : Nat, k ≤ ws.length ∧ i = .int .i64 k ∧ LoadsAt wr g b k (projL (ws.take k)) ∧ Below w.heap.size w wr) (fun i _ => ws.length - (intOf i).toNat)
  case atStart => exact ⟨0, Nat.zero_le _, rfl, HL.out, HB.out⟩
  case round =>
    obtain ⟨k, hk, rfl, hl, hbr⟩ := hrel
    have HLR := Lib.hid hl
    have HBR := Lib.hid hbr
    have hgl := hl.blk.lt
    have hbl : b < wr.heap.size := by obtain ⟨D, h1, _⟩ := hl.map; exact h1.lt
    clear hl hbr
    by_cases hkl : k < ws.length
    · obtain ⟨bk, off, rfl, _, hbw, hrg⟩ := HW.out.rd.rangeAt (sz := 16) (by omega) (fun v hv => by simpa using (HW.out.all v hv).1.size) hkl
      have hrg1 : wr.rangeAt bk (off + k * 16) ws[k].cs.toList := fun j v hj => (HBR.out.cell (p := ⟨bk, off + k * 16 + j, none⟩) hbw).trans (hrg j v hj)
      have hv := HW.out.all _ (List.getElem_mem hkl)
      have HT := Lib.hid (projL_take hkl)
      clear hrg
      generalize ws[k] = v at *
      have hnum := hv.1.num
      have hsz := hv.1.size
      have hone := Lib.hid hv.1.one
      have HGW := Lib.hid (WV.goes_wf hv.1)
      have HTF := Lib.hid (WV.took_form hv.1)
      have HTK := Lib.hid fun W (hb : Below w.heap.size w W) => taken_any (w := W) v hv.1 (hv.2.2.below hb (fun _ h _ => h)) v.at_ hv.2.1
      have HOKP := Lib.hid (projL_ok (ws.take k))
      generalize projL (ws.take k) = x at *
      obtain ⟨d0, d1, d2, d3, d4, d5, d6, d7, d8, d9, htk⟩ := HTF.out
      rw [htk] at HTK
      clear HTF htk hv
      generalize v.goes = gf at *
      obtain ⟨cs, nn, f, D', dc, dd⟩ := v
      simp only at *
      obtain ⟨c0, c1, c2, c3, c4, c5, c6, c7, c8, c9, c10, c11, c12, c13, c14, c15, rfl⟩ := cells16 hsz
      simp at hnum
      subst hnum
      have HRG := Lib.hid hrg1
      clear hrg1 hsz
      have HKB := Lib.hid (Blk.new wr 54 #[c0, c1, .int .i64 nn, c3, c4, c5, c6, c7, c8, c9, c10, c11, c12, c13, c14, c15])
      go_wp2_with (first | (refine wpList_load_mid rfl 54 (.tmp 11) rfl bk (off + k * 16) rfl _ _ HRG.out Try.underlying54 rfl (by kernel_rfl) ?_) | (refine wpList_store_new (by rfl) 54 (.tmp 5) (.tmp 12) rfl wr _ #[c0, c1, .int .i64 nn, c3, c4, c5, c6, c7, c8, c9, c10, c11, c12, c13, c14, c15] (by rfl) (by rfl) (by rfl) (by kernel_rfl) (by rfl) hone.out ?_))
      have hfr := face_run d0 d1 d2 d3 d4 d5 d6 d7 d8 d9 gf
      go_region_held3 (fun W => W.cell? ⟨wr.heap.size, 0, none⟩ = some c0 ∧ W.cell? ⟨wr.heap.size, 1, none⟩ = some c1 ∧ W.cell? ⟨wr.heap.size, 2, none⟩ = some (.int .i64 nn) ∧ W.cell? ⟨wr.heap.size, 3, none⟩ = some c3 ∧ W.cell? ⟨wr.heap.size, 4, none⟩ = some c4 ∧ W.cell? ⟨wr.heap.size, 5, none⟩ = some c5 ∧ W.cell? ⟨wr.heap.size, 6, none⟩ = some c6 ∧ W.cell? ⟨wr.heap.size, 7, none⟩ = some c7 ∧ W.cell? ⟨wr.heap.size, 8, none⟩ = some c8 ∧ W.cell? ⟨wr.heap.size, 9, none⟩ = some c9 ∧ W.cell? ⟨wr.heap.size, 10, none⟩ = some c10 ∧ W.cell? ⟨wr.heap.size, 11, none⟩ = some c11 ∧ W.cell? ⟨wr.heap.size, 12, none⟩ = some c12 ∧ W.cell? ⟨wr.heap.size, 13, none⟩ = some c13 ∧ W.cell? ⟨wr.heap.size, 14, none⟩ = some c14 ∧ W.cell? ⟨wr.heap.size, 15, none⟩ = some c15) (first | exact ⟨hk4.cell 0, hk4.cell 1, hk4.cell 2, hk4.cell 3, hk4.cell 4, hk4.cell 5, hk4.cell 6, hk4.cell 7, hk4.cell 8, hk4.cell 9, hk4.cell 10, hk4.cell 11, hk4.cell 12, hk4.cell 13, hk4.cell 14, hk4.cell 15⟩ | exact ⟨hk3.cell 0, hk3.cell 1, hk3.cell 2, hk3.cell 3, hk3.cell 4, hk3.cell 5, hk3.cell 6, hk3.cell 7, hk3.cell 8, hk3.cell 9, hk3.cell 10, hk3.cell 11, hk3.cell 12, hk3.cell 13, hk3.cell 14, hk3.cell 15⟩ | exact ⟨HKB.out.cell 0, HKB.out.cell 1, HKB.out.cell 2, HKB.out.cell 3, HKB.out.cell 4, HKB.out.cell 5, HKB.out.cell 6, HKB.out.cell 7, HKB.out.cell 8, HKB.out.cell 9, HKB.out.cell 10, HKB.out.cell 11, HKB.out.cell 12, HKB.out.cell 13, HKB.out.cell 14, HKB.out.cell 15⟩ | go_keep) ((first
        | (go_at_call 24; refine (HTK.out _ (by repeat (first | exact HBR.out | refine Below.drew ?_ | refine Below.alloc ?_ (by have := HBR.out.size; simp <;> omega) _))).mono ?_; rintro e w3 ⟨rfl, hb3⟩; have hk3 : Blk w3 wr.heap.size 54 #[c0, c1, .int .i64 nn, c3, c4, c5, c6, c7, c8, c9, c10, c11, c12, c13, c14, c15] := Blk.below (by repeat (first | exact HKB.out | refine Blk.drew ?_)) hb3 (by simp); have hbw3 : Below wr.heap.size wr w3 := Below.trans (by repeat (first | exact Below.refl _ _ | refine Below.drew ?_ | refine Below.alloc ?_ (by simp) _)) (hb3.mono (by simp)); have hl3 : LoadsAt w3 g b k x := HLR.out.below hbw3; have hb3w : Below w.heap.size w w3 := HBR.out.trans (hbw3.mono HBR.out.size))
        | (go_at_call 10; refine (ladd_any hl3 HOKP.out gf nn HGW.out (by omega)).mono ?_; rintro e w4 ⟨rfl, hl4, ho4⟩; have hk4 : Blk w4 wr.heap.size 54 #[c0, c1, .int .i64 nn, c3, c4, c5, c6, c7, c8, c9, c10, c11, c12, c13, c14, c15] := hk3.only ho4 (by rintro (h | h) <;> omega); have hb4 : Below w.heap.size w w4 := hb3w.trans (ho4.below (by exact hb3w.size) (by rintro i (h | h) <;> omega)))))
      rw [← HT.out] at hl4
      have HL4 := Lib.hid hl4
      clear hl4 hl3
      go_wp2_with fail
      go_roundw
      case rel => exact ⟨k + 1, by omega, by go_num, HL4.out, hb4⟩
      case measure => simp [intOf]; omega
    · obtain rfl : k = ws.length := by omega
      have HF := Lib.hid HLR.out
      rw [List.take_length] at HF
      go_wp2_with fail
      go_ret
      exact ⟨g, b, rfl, HF.out, HBR.out, hg, hbb⟩
end Go.Proofs.Ytneablcgcdmgpaa
