/-
  Notes: are two the same; the document's Check and Body. No condition but that bytes read as data.
-/
import Derived.Test.YteokhnkipandbaaDoorNoteR
namespace Go.Proofs.YteokhnkipandbaaDoor
open Go.ChangeShapes Go.WideShapes Go.ChangeAt Go.RowKit

/-- are two notes the same? -/
def sameN (a b : NV) : Bool := decide (a.code = b.code) && decide (a.sub = b.sub) && eqB a.d b.d
theorem str_inj {a b : List UInt8} (h : str a = str b) : a = b := by
  have := congrArg ByteArray.toList h
  simpa [str_toList] using this

section
variable (a b : NV) (w : World) (F G : Nat → Prop)
theorem same_boxes : Blk ((w.alloc (.cells a.cells 68)).alloc (.cells b.cells 68)) w.heap.size 68 a.cells ∧ Blk ((w.alloc (.cells a.cells 68)).alloc (.cells b.cells 68)) (w.heap.size + 1) 68 b.cells ∧ Below w.heap.size w ((w.alloc (.cells a.cells 68)).alloc (.cells b.cells 68)) := by
  refine ⟨(Blk.new w _ _).alloc _, ?_, ((Below.refl w.heap.size w).alloc (Nat.le_refl _) _).alloc (by simp) _⟩
  have := Blk.new (w.alloc (.cells a.cells 68)) 68 b.cells
  rw [World.size_alloc] at this
  exact this

theorem same_any (hla : a.d.length ≤ 9223372036854775807) (hlb : b.d.length ≤ 9223372036854775807) (hr : Reads w F a.A (a.d.map vb)) (hr' : Reads w G b.A (b.d.map vb)) :
    Calls Tryd.prog 67 #[a.val, b.val] w fun e w' => e = .returned (.bool (sameN a b)) ∧ Below w.heap.size w w' := by
  obtain ⟨_, _, hb⟩ := same_boxes a b w
  have hr := (hr.alloc (.cells a.cells 68)).alloc (.cells b.cells 68)
  have hr' := (hr'.alloc (.cells a.cells 68)).alloc (.cells b.cells 68)
  by_cases h1 : a.code = b.code
  case neg =>
    have H := Lib.hid (show sameN a b = false from by simp [sameN, h1])
    obtain ⟨c1, s1, A1, k1, d1⟩ := a
    obtain ⟨c2, s2, A2, k2, d2⟩ := b
    simp only [NV.val, NV.cells] at h1 H hb ⊢
    clear hr hr'
    go_enter Tryd.func67, Tryd.ntmps67
    go_wp2_with fail
    go_ret
    exact ⟨by rw [H.out]; rfl, hb⟩
  by_cases h2 : a.sub = b.sub
  case neg =>
    have H := Lib.hid (show sameN a b = false from by simp [sameN, h2])
    obtain ⟨c1, s1, A1, k1, d1⟩ := a
    obtain ⟨c2, s2, A2, k2, d2⟩ := b
    simp only [NV.val, NV.cells] at h1 h2 H hb ⊢
    clear hr hr'
    subst h1
    go_enter Tryd.func67, Tryd.ntmps67
    go_wp2_with fail
    go_ret
    exact ⟨by rw [H.out]; rfl, hb⟩
  have H := Lib.hid (show sameN a b = eqB a.d b.d from by simp [sameN, h1, h2])
  obtain ⟨c1, s1, A1, k1, d1⟩ := a
  obtain ⟨c2, s2, A2, k2, d2⟩ := b
  simp only [NV.val, NV.cells] at h1 h2 H hb hr hr' hla hlb ⊢
  subst h1 h2
  go_enter Tryd.func67, Tryd.ntmps67
  go_wp2_with fail
  refine (equal_u8 A1 A2 k1 k2 d1 d2 F G _ hla hlb hr hr').mono ?_
  rintro e w1 ⟨rfl, n, rfl⟩
  go_wp2_with fail
  go_ret
  exact ⟨by rw [H.out]; rfl, below_drewN' hb n⟩

theorem samenote_any (hla : a.d.length ≤ 9223372036854775807) (hlb : b.d.length ≤ 9223372036854775807) (hr : Reads w F a.A (a.d.map vb)) (hr' : Reads w G b.A (b.d.map vb)) :
    Calls Tryd.prog 38 #[a.val, b.val] w fun e w' => e = .returned (.bool (sameN a b)) ∧ Below w.heap.size w w' := by
  obtain ⟨_, _, hb⟩ := same_boxes a b w
  have hr := (hr.alloc (.cells a.cells 68)).alloc (.cells b.cells 68)
  have hr' := (hr'.alloc (.cells a.cells 68)).alloc (.cells b.cells 68)
  by_cases h1 : a.code = b.code
  case neg =>
    have H := Lib.hid (show sameN a b = false from by simp [sameN, h1])
    obtain ⟨c1, s1, A1, k1, d1⟩ := a
    obtain ⟨c2, s2, A2, k2, d2⟩ := b
    simp only [NV.val, NV.cells] at h1 H hb ⊢
    clear hr hr'
    go_enter Tryd.func38, Tryd.ntmps38
    go_wp2_with fail
    go_ret
    exact ⟨by rw [H.out]; rfl, hb⟩
  by_cases h2 : a.sub = b.sub
  case neg =>
    have H := Lib.hid (show sameN a b = false from by simp [sameN, h2])
    obtain ⟨c1, s1, A1, k1, d1⟩ := a
    obtain ⟨c2, s2, A2, k2, d2⟩ := b
    simp only [NV.val, NV.cells] at h1 h2 H hb ⊢
    clear hr hr'
    subst h1
    go_enter Tryd.func38, Tryd.ntmps38
    go_wp2_with fail
    go_ret
    exact ⟨by rw [H.out]; rfl, hb⟩
  have s1 := run_convert_rd (P := Tryd.prog) 59 9 5 a.c Tryd.underlying59 Tryd.underlying5 Tryd.underlying9 hr
  have s2 := run_convert_rd (P := Tryd.prog) 59 9 5 b.c Tryd.underlying59 Tryd.underlying5 Tryd.underlying9 hr'
  clear hr hr'
  have H := Lib.hid (show sameN a b = ((str a.d).toList == (str b.d).toList) from by rw [str_eq]; simp only [sameN, h1, h2, eqB, decide_true, Bool.true_and]; by_cases h : a.d = b.d <;> simp [h])
  obtain ⟨c1, x1, A1, k1, d1⟩ := a
  obtain ⟨c2, x2, A2, k2, d2⟩ := b
  simp only [NV.val, NV.cells] at *
  subst h1 h2
  generalize str d1 = q1 at *
  generalize str d2 = q2 at *
  go_enter Tryd.func38, Tryd.ntmps38
  go_wp2_with fail
  go_ret
  exact ⟨by rw [H.out]; rfl, hb⟩
end

theorem refcheck_any (n : NV) (w : World) (hl : n.d.length ≤ 9223372036854775807) : Calls Tryd.prog 69 #[n.val] w fun e w' => e = .returned (.bool (noteOk n)) ∧ Below w.heap.size w w' := by
  have hb := (Below.refl w.heap.size w).alloc (Nat.le_refl _) (.cells n.cells 68)
  have h1 : (1 ≤ n.code ∧ n.code ≤ 6 ∧ 0 ≤ n.sub ∧ n.sub ≤ 255 ∧ (n.d.length : Int) ≤ 4075) ∨ ¬ (1 ≤ n.code) ∨ (1 ≤ n.code ∧ ¬ (n.code ≤ 6)) ∨ (1 ≤ n.code ∧ n.code ≤ 6 ∧ ¬ (0 ≤ n.sub)) ∨ (1 ≤ n.code ∧ n.code ≤ 6 ∧ 0 ≤ n.sub ∧ ¬ (n.sub ≤ 255)) ∨ (1 ≤ n.code ∧ n.code ≤ 6 ∧ 0 ≤ n.sub ∧ n.sub ≤ 255 ∧ ¬ ((n.d.length : Int) ≤ 4075)) := by omega
  rcases h1 with ⟨g1, g2, g3, g4, g5⟩ | g1 | ⟨g1, g2⟩ | ⟨g1, g2, g3⟩ | ⟨g1, g2, g3, g4⟩ | ⟨g1, g2, g3, g4, g5⟩
  case inl => 
    have H := Lib.hid (show noteOk n = true from by simp [noteOk, knownB]; omega)
    obtain ⟨code, sub, A, c, d⟩ := n
    simp only [NV.val, NV.cells] at *
    go_enter Tryd.func69, Tryd.ntmps69
    go_wp2_with fail
    go_ret
    exact ⟨by rw [H.out]; rfl, hb⟩
  all_goals
    have H := Lib.hid (show noteOk n = false from by simp [noteOk, knownB]; omega)
    obtain ⟨code, sub, A, c, d⟩ := n
    simp only [NV.val, NV.cells] at *
    go_enter Tryd.func69, Tryd.ntmps69
    go_wp2_with fail
    go_ret
    exact ⟨by rw [H.out]; rfl, hb⟩

theorem refbody_ok (n : NV) (w : World) (F : Nat → Prop) (hok : noteOk n = true) (hr : Reads w F n.A (n.d.map vb)) :
    Calls Tryd.prog 72 #[n.val] w fun e w' => ∃ v, e = .returned v ∧ w'.ownsRow w.heap.size 5 1 v n.body.length (n.body.map vb) ∧ Below w.heap.size w w' := by
  have hl : n.d.length ≤ 4075 := by simp [noteOk] at hok; omega
  have hb0 := ((Below.refl w.heap.size w).alloc (Nat.le_refl _) (.cells n.cells 68))
  have hN0 := (Blk.new w 68 n.cells)
  obtain ⟨i0, hi, hz0, hz1, hz2⟩ := info_parts infoU8
  obtain ⟨code, sub, A, c, d⟩ := n
  simp only [NV.val, NV.cells] at hb0 hN0 hr hl ⊢
  simp only [noteOk, knownB] at hok
  have h1 : 1 ≤ code ∧ code ≤ 6 ∧ 0 ≤ sub ∧ sub ≤ 255 := by simp at hok; omega
  obtain ⟨h1, h6, h0, h255⟩ := h1
  clear hok
  have hN2 := hN0.alloc (.cells #[.int .u8 code, .int .u8 sub] 5)
  have hd2 := hN2.cell 2
  simp at hd2
  have e1 : IntKind.u8.wrap code = code := IntWalk.u8_in _ (by omega)
  have e2 : IntKind.u8.wrap sub = sub := IntWalk.u8_in _ (by omega)
  have hP2 := Blk.new (w.alloc (.cells #[.int .i64 code, .int .i64 sub, .slice A d.length c] 68)) 5 #[.int .u8 code, .int .u8 sub]
  rw [World.size_alloc] at hP2
  have hown0 : ((w.alloc (.cells #[.int .i64 code, .int .i64 sub, .slice A d.length c] 68)).alloc (.cells #[.int .u8 code, .int .u8 sub] 5)).ownsRow (w.heap.size + 1) 5 1 (.slice (some ⟨w.heap.size + 1, 0, none⟩) 2 2) 2 ([UInt8.ofNat code.toNat, UInt8.ofNat sub.toNat].map vb) := by
    refine ⟨by simp, .inr ⟨w.heap.size + 1, 2, _, rfl, Nat.le_refl _, hP2, Nat.le_refl _, by unfold maxLen; omega, by simp, ?_⟩⟩
    simp [vb_ofInt (by omega) (by omega : code ≤ 255), vb_ofInt h0 h255]
  have hr3 := (hr.alloc (.cells #[.int .i64 code, .int .i64 sub, .slice A d.length c] 68)).alloc (.cells #[.int .u8 code, .int .u8 sub] 5)
  have hb3 := hb0.alloc (by simp) (.cells #[.int .u8 code, .int .u8 sub] 5)
  clear hN2 hP2 hN0 hr
  go_enter Tryd.func72, Tryd.ntmps72
  go_wp2_with (refine wpList_append_rd _ (by rfl) (.tmp 9) (.tmp 11) 59 rfl (w.heap.size + 1) 5 i0 (.int .u8 0) 1 1 Tryd.underlying59 hi hz0 hz1 hz2 rfl (by omega) _ 2 _ (by rfl) hown0 F A d.length c (d.map vb) (by rfl) (by simp) hr3 (vb_one d) (by unfold maxLen; omega) (by omega) (by simp) ?_)
  intro v w1 hown hg _
  have hb4 := below_append hb3 (by simp; omega) (own_mono hown0 (show w.heap.size ≤ w.heap.size + 1 by omega)) hg
  have hown2 := own_mono hown (show w.heap.size ≤ w.heap.size + 1 by omega)
  have HO := Lib.hid hown2
  clear hown hown2 hg hown0 hr3
  go_wp2_with fail
  go_ret
  exact ⟨v, rfl, by have := HO.out; rw [show (NV.body ⟨code, sub, A, c, d⟩).length = 2 + d.length by simp [NV.body]; omega]; simpa [NV.body] using this, hb4⟩
end Go.Proofs.YteokhnkipandbaaDoor
