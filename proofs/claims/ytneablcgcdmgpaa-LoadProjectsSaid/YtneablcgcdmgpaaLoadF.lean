/-
  Loads: what must come of every program. No condition.
-/
import Derived.Test.YtneablcgcdmgpaaLoadE
namespace Go.Proofs.Ytneablcgcdmgpaa
open Go.ChangeShapes Go.WideShapes Go.ChangeAt Go.RowKit Go.Maps

theorem own_readsN {w : World} {B size : Nat} {e : TypeId} {n : Nat} {v : Value} {xs : List Value} (h : w.ownsRow B e size v n xs) : ∃ A c, v = .slice A n c ∧ Reads w (fun _ => True) A xs := by
  have h1 := h.1
  rcases h.2 with ⟨rfl, rfl⟩ | ⟨g, cap, cur, hv, hg, hh, hn, hc, hs, ht⟩
  · have : xs = [] := List.eq_nil_of_length_eq_zero (by simpa using h1)
    subst this
    exact ⟨none, 0, rfl, Reads.nil⟩
  · refine ⟨some ⟨g, 0, none⟩, cap, hv, .inr ⟨g, 0, rfl, trivial, ?_, fun j u hj => ?_⟩⟩
    · rcases Nat.lt_or_ge g w.heap.size with hl | hge
      · exact hl
      · rw [Array.getElem?_eq_none hge] at hh; cases hh
    · have hc' := h.cells (g := g) (by rw [hv]; rfl) j u hj
      rw [addr_add rfl] at hc'
      exact hc'
def lWant (g1 : Nat) (a : Int) : WV := ⟨#[.int .u32 0, .int .i64 0, .int .i64 3, .int .i64 0, .int .u32 0, .int .i64 0, .int .i64 0, .int .i64 0, .slice none 0 0, .int .u32 0, .int .i64 0, .int .i64 0, .slice none 0 0, .int .i64 4, .slice (some ⟨g1, 0, none⟩) 1 1, .int .i64 a], 3, 4, some ⟨g1, 0, none⟩, 1, [⟨#[.int .i64 0, .int .u32 0, .int .i64 0, .int .i64 0, .int .i64 0, .slice none 0 0, .int .u32 0, .int .i64 0, .int .i64 0, .slice none 0 0, .int .i64 5], 5⟩]⟩
theorem lWant_ok (g1 : Nat) (a : Int) : (lWant g1 a).ok :=
  ⟨rfl, rfl, rfl, rfl, rfl, by simp [lWant, Value.oneCell'], fun v hv => by
    obtain rfl : v = ⟨#[.int .i64 0, .int .u32 0, .int .i64 0, .int .i64 0, .int .i64 0, .slice none 0 0, .int .u32 0, .int .i64 0, .int .i64 0, .slice none 0 0, .int .i64 5], 5⟩ := by simpa [lWant] using hv
    exact ⟨rfl, rfl, rfl, by simp [Value.oneCell']⟩, by simp [lWant]⟩
theorem lWants_in {w : World} {g g1 : Nat} (h1 : Blk w g1 51 #[.int .i64 0, .int .u32 0, .int .i64 0, .int .i64 0, .int .i64 0, .slice none 0 0, .int .u32 0, .int .i64 0, .int .i64 0, .slice none 0 0, .int .i64 5]) (h : Blk w g 54 #[.int .u32 0, .int .i64 0, .int .i64 3, .int .i64 0, .int .u32 0, .int .i64 0, .int .i64 0, .int .i64 0, .slice none 0 0, .int .u32 0, .int .i64 0, .int .i64 0, .slice none 0 0, .int .i64 4, .slice (some ⟨g1, 0, none⟩) 1 1, .int .i64 (-1), .int .u32 0, .int .i64 0, .int .i64 3, .int .i64 0, .int .u32 0, .int .i64 0, .int .i64 0, .int .i64 0, .slice none 0 0, .int .u32 0, .int .i64 0, .int .i64 0, .slice none 0 0, .int .i64 4, .slice (some ⟨g1, 0, none⟩) 1 1, .int .i64 (-1)]) : WantsIn w (some ⟨g, 0, none⟩) [lWant g1 (-1), lWant g1 (-1)] := by
  have e : (#[.int .u32 0, .int .i64 0, .int .i64 3, .int .i64 0, .int .u32 0, .int .i64 0, .int .i64 0, .int .i64 0, .slice none 0 0, .int .u32 0, .int .i64 0, .int .i64 0, .slice none 0 0, .int .i64 4, .slice (some ⟨g1, 0, none⟩) 1 1, .int .i64 (-1), .int .u32 0, .int .i64 0, .int .i64 3, .int .i64 0, .int .u32 0, .int .i64 0, .int .i64 0, .int .i64 0, .slice none 0 0, .int .u32 0, .int .i64 0, .int .i64 0, .slice none 0 0, .int .i64 4, .slice (some ⟨g1, 0, none⟩) 1 1, .int .i64 (-1)] : Array Value).toList = wantCells [lWant g1 (-1), lWant g1 (-1)] := by simp [wantCells, lWant]
  refine ⟨by simp, e ▸ (reads_of_blk h).mono (fun _ _ _ => trivial), fun v hv => ?_⟩
  obtain rfl : v = lWant g1 (-1) := by simpa using hv
  exact ⟨lWant_ok _ _, rfl, (reads_of_blk h1).mono (fun _ _ _ => trivial)⟩
theorem l1 : (LD.mk [] false).add 2 5 = ⟨[(2, 5)], false⟩ := rfl
theorem l2 : (LD.mk [(2, 5)] false).add 1 7 = ⟨[(1, 7), (2, 5)], false⟩ := rfl
theorem l3 : (LD.mk [(1, 7), (2, 5)] false).add 2 1 = ⟨[(1, 7), (2, 6)], false⟩ := rfl
theorem l4 : (LD.mk [(1, 7), (2, 6)] false).add (-1) 9 = ⟨[(1, 7), (2, 6)], false⟩ := rfl
theorem l5 : (LD.mk [(1, 7), (2, 6)] false).sub 1 9 = ⟨[(2, 6)], false⟩ := rfl
theorem l6 (g : Nat) : projL [lWant g (-1), lWant g (-1)] = ⟨[(4, 6)], false⟩ := rfl
theorem o1 : (LD.mk [(2, 5)] false).ok := l1 ▸ LD.ok_add LD.ok_nil 2 5
theorem o2 : (LD.mk [(1, 7), (2, 5)] false).ok := l2 ▸ LD.ok_add o1 1 7
theorem o3 : (LD.mk [(1, 7), (2, 6)] false).ok := l3 ▸ LD.ok_add o2 2 1
theorem o5 : (LD.mk [(2, 6)] false).ok := l5 ▸ LD.ok_sub o3 1 9
theorem ptr_some (g : Nat) (w : World) : Sem.run Try.prog (binOp .eql 23 (.pointer (some ⟨g, 0, none⟩)) (.pointer none)) w = .ok (.bool false) w := by kernel_rfl
theorem ptr_some2 (g : Nat) (w : World) : Sem.run Try.prog (binOp .neq 23 (.pointer (some ⟨g, 0, none⟩)) (.pointer none)) w = .ok (.bool true) w := by kernel_rfl
set_option maxRecDepth 20000 in
set_option maxHeartbeats 8000000 in
theorem lives_any (w : World) : Calls Try.prog 9 #[] w fun e w' => e = .returned (.bool true) ∧ Below w.heap.size w w' := by
  have hp1 := ptr_some
  go_enter Try.func9, Try.ntmps9
  go_wp2_with fail
  refine (new_any _).mono ?_
  rintro e w1 ⟨g, b, rfl, hl, hb, hg, hbb⟩
  have HL1 := Lib.hid hl
  have HB1 := Lib.hid hb
  clear hl hb
  go_wp2_with fail
  have H := ladd_any HL1.out LD.ok_nil 2 5 rfl (by omega)
  rw [l1] at H
  refine H.mono ?_
  clear H
  rintro e w2 ⟨rfl, hl, ho⟩
  have HL2 := Lib.hid hl
  have HB2 := Lib.hid (HB1.out.trans (ho.below HB1.out.size (by rintro i (h | h) <;> omega)))
  clear hl ho HL1 HB1
  go_wp2_with fail
  have H := ladd_any HL2.out o1 1 7 rfl (by omega)
  rw [l2] at H
  refine H.mono ?_
  clear H
  rintro e w3 ⟨rfl, hl, ho⟩
  have HL3 := Lib.hid hl
  have HB3 := Lib.hid (HB2.out.trans (ho.below HB2.out.size (by rintro i (h | h) <;> omega)))
  clear hl ho HL2 HB2
  go_wp2_with fail
  have H := ladd_any HL3.out o2 2 1 rfl (by omega)
  rw [l3] at H
  refine H.mono ?_
  clear H
  rintro e w4 ⟨rfl, hl, ho⟩
  have HL4 := Lib.hid hl
  have HB4 := Lib.hid (HB3.out.trans (ho.below HB3.out.size (by rintro i (h | h) <;> omega)))
  clear hl ho HL3 HB3
  go_wp2_with fail
  have H := ladd_any HL4.out o3 (-1) 9 rfl (by omega)
  rw [l4] at H
  refine H.mono ?_
  clear H
  rintro e w5 ⟨rfl, hl, ho⟩
  have HL5 := Lib.hid hl
  have HB5 := Lib.hid (HB4.out.trans (ho.below HB4.out.size (by rintro i (h | h) <;> omega)))
  clear hl ho HL4 HB4
  go_wp2_with fail
  have H := lsub_any HL5.out o3 1 9 rfl (by omega)
  rw [l5] at H
  refine H.mono ?_
  clear H
  rintro e w6 ⟨rfl, hl, ho⟩
  have HL6 := Lib.hid hl
  have HB6 := Lib.hid (HB5.out.trans (ho.below HB5.out.size (by rintro i (h | h) <;> omega)))
  clear hl ho HL5 HB5
  go_wp2_with fail
  refine (of_any HL6.out 2 rfl).mono ?_
  rintro e w' ⟨rfl, rfl⟩
  rw [show getZ (LD.mk [(2, 6)] false).s 2 = 6 from rfl]
  go_wp2_with fail
  refine (fits_any HL6.out 2 4 10 rfl).mono ?_
  rintro e w' ⟨rfl, rfl⟩
  rw [show (LD.mk [(2, 6)] false).fits 2 4 10 = true from rfl]
  go_wp2_with fail
  refine (fits_any HL6.out 2 5 10 rfl).mono ?_
  rintro e w' ⟨rfl, rfl⟩
  rw [show (LD.mk [(2, 6)] false).fits 2 5 10 = false from rfl]
  go_wp2_with fail
  have hb9 : Below w6.heap.size w6 (((w6.alloc (.cells #[.int .i64 0, .int .u32 0, .int .i64 0, .int .i64 0, .int .i64 0, .slice none 0 0, .int .u32 0, .int .i64 0, .int .i64 0, .slice none 0 0, .int .i64 5] 51)).alloc (.cells #[.int .u32 0, .int .i64 0, .int .i64 3, .int .i64 0, .int .u32 0, .int .i64 0, .int .i64 0, .int .i64 0, .slice none 0 0, .int .u32 0, .int .i64 0, .int .i64 0, .slice none 0 0, .int .i64 4, .slice (some ⟨w6.heap.size, 0, none⟩) 1 1, .int .i64 (-1)] 54)).alloc (.cells #[.int .u32 0, .int .i64 0, .int .i64 3, .int .i64 0, .int .u32 0, .int .i64 0, .int .i64 0, .int .i64 0, .slice none 0 0, .int .u32 0, .int .i64 0, .int .i64 0, .slice none 0 0, .int .i64 4, .slice (some ⟨w6.heap.size, 0, none⟩) 1 1, .int .i64 (-1), .int .u32 0, .int .i64 0, .int .i64 3, .int .i64 0, .int .u32 0, .int .i64 0, .int .i64 0, .int .i64 0, .slice none 0 0, .int .u32 0, .int .i64 0, .int .i64 0, .slice none 0 0, .int .i64 4, .slice (some ⟨w6.heap.size, 0, none⟩) 1 1, .int .i64 (-1)] 54)) := (below_a2 w6 (.cells #[.int .i64 0, .int .u32 0, .int .i64 0, .int .i64 0, .int .i64 0, .slice none 0 0, .int .u32 0, .int .i64 0, .int .i64 0, .slice none 0 0, .int .i64 5] 51) (.cells #[.int .u32 0, .int .i64 0, .int .i64 3, .int .i64 0, .int .u32 0, .int .i64 0, .int .i64 0, .int .i64 0, .slice none 0 0, .int .u32 0, .int .i64 0, .int .i64 0, .slice none 0 0, .int .i64 4, .slice (some ⟨w6.heap.size, 0, none⟩) 1 1, .int .i64 (-1)] 54)).alloc (by simp <;> omega) _
  have hO9 : Blk (((w6.alloc (.cells #[.int .i64 0, .int .u32 0, .int .i64 0, .int .i64 0, .int .i64 0, .slice none 0 0, .int .u32 0, .int .i64 0, .int .i64 0, .slice none 0 0, .int .i64 5] 51)).alloc (.cells #[.int .u32 0, .int .i64 0, .int .i64 3, .int .i64 0, .int .u32 0, .int .i64 0, .int .i64 0, .int .i64 0, .slice none 0 0, .int .u32 0, .int .i64 0, .int .i64 0, .slice none 0 0, .int .i64 4, .slice (some ⟨w6.heap.size, 0, none⟩) 1 1, .int .i64 (-1)] 54)).alloc (.cells #[.int .u32 0, .int .i64 0, .int .i64 3, .int .i64 0, .int .u32 0, .int .i64 0, .int .i64 0, .int .i64 0, .slice none 0 0, .int .u32 0, .int .i64 0, .int .i64 0, .slice none 0 0, .int .i64 4, .slice (some ⟨w6.heap.size, 0, none⟩) 1 1, .int .i64 (-1), .int .u32 0, .int .i64 0, .int .i64 3, .int .i64 0, .int .u32 0, .int .i64 0, .int .i64 0, .int .i64 0, .slice none 0 0, .int .u32 0, .int .i64 0, .int .i64 0, .slice none 0 0, .int .i64 4, .slice (some ⟨w6.heap.size, 0, none⟩) 1 1, .int .i64 (-1)] 54)) w6.heap.size 51 #[.int .i64 0, .int .u32 0, .int .i64 0, .int .i64 0, .int .i64 0, .slice none 0 0, .int .u32 0, .int .i64 0, .int .i64 0, .slice none 0 0, .int .i64 5] := ((Blk.new w6 51 #[.int .i64 0, .int .u32 0, .int .i64 0, .int .i64 0, .int .i64 0, .slice none 0 0, .int .u32 0, .int .i64 0, .int .i64 0, .slice none 0 0, .int .i64 5]).alloc _).alloc _
  have hV9 : Blk (((w6.alloc (.cells #[.int .i64 0, .int .u32 0, .int .i64 0, .int .i64 0, .int .i64 0, .slice none 0 0, .int .u32 0, .int .i64 0, .int .i64 0, .slice none 0 0, .int .i64 5] 51)).alloc (.cells #[.int .u32 0, .int .i64 0, .int .i64 3, .int .i64 0, .int .u32 0, .int .i64 0, .int .i64 0, .int .i64 0, .slice none 0 0, .int .u32 0, .int .i64 0, .int .i64 0, .slice none 0 0, .int .i64 4, .slice (some ⟨w6.heap.size, 0, none⟩) 1 1, .int .i64 (-1)] 54)).alloc (.cells #[.int .u32 0, .int .i64 0, .int .i64 3, .int .i64 0, .int .u32 0, .int .i64 0, .int .i64 0, .int .i64 0, .slice none 0 0, .int .u32 0, .int .i64 0, .int .i64 0, .slice none 0 0, .int .i64 4, .slice (some ⟨w6.heap.size, 0, none⟩) 1 1, .int .i64 (-1), .int .u32 0, .int .i64 0, .int .i64 3, .int .i64 0, .int .u32 0, .int .i64 0, .int .i64 0, .int .i64 0, .slice none 0 0, .int .u32 0, .int .i64 0, .int .i64 0, .slice none 0 0, .int .i64 4, .slice (some ⟨w6.heap.size, 0, none⟩) 1 1, .int .i64 (-1)] 54)) (w6.heap.size + 1) 54 #[.int .u32 0, .int .i64 0, .int .i64 3, .int .i64 0, .int .u32 0, .int .i64 0, .int .i64 0, .int .i64 0, .slice none 0 0, .int .u32 0, .int .i64 0, .int .i64 0, .slice none 0 0, .int .i64 4, .slice (some ⟨w6.heap.size, 0, none⟩) 1 1, .int .i64 (-1)] := by
    have := Blk.new (w6.alloc (.cells #[.int .i64 0, .int .u32 0, .int .i64 0, .int .i64 0, .int .i64 0, .slice none 0 0, .int .u32 0, .int .i64 0, .int .i64 0, .slice none 0 0, .int .i64 5] 51)) 54 #[.int .u32 0, .int .i64 0, .int .i64 3, .int .i64 0, .int .u32 0, .int .i64 0, .int .i64 0, .int .i64 0, .slice none 0 0, .int .u32 0, .int .i64 0, .int .i64 0, .slice none 0 0, .int .i64 4, .slice (some ⟨w6.heap.size, 0, none⟩) 1 1, .int .i64 (-1)]
    rw [World.size_alloc] at this
    exact this.alloc _
  have hVV9 : Blk (((w6.alloc (.cells #[.int .i64 0, .int .u32 0, .int .i64 0, .int .i64 0, .int .i64 0, .slice none 0 0, .int .u32 0, .int .i64 0, .int .i64 0, .slice none 0 0, .int .i64 5] 51)).alloc (.cells #[.int .u32 0, .int .i64 0, .int .i64 3, .int .i64 0, .int .u32 0, .int .i64 0, .int .i64 0, .int .i64 0, .slice none 0 0, .int .u32 0, .int .i64 0, .int .i64 0, .slice none 0 0, .int .i64 4, .slice (some ⟨w6.heap.size, 0, none⟩) 1 1, .int .i64 (-1)] 54)).alloc (.cells #[.int .u32 0, .int .i64 0, .int .i64 3, .int .i64 0, .int .u32 0, .int .i64 0, .int .i64 0, .int .i64 0, .slice none 0 0, .int .u32 0, .int .i64 0, .int .i64 0, .slice none 0 0, .int .i64 4, .slice (some ⟨w6.heap.size, 0, none⟩) 1 1, .int .i64 (-1), .int .u32 0, .int .i64 0, .int .i64 3, .int .i64 0, .int .u32 0, .int .i64 0, .int .i64 0, .int .i64 0, .slice none 0 0, .int .u32 0, .int .i64 0, .int .i64 0, .slice none 0 0, .int .i64 4, .slice (some ⟨w6.heap.size, 0, none⟩) 1 1, .int .i64 (-1)] 54)) (w6.heap.size + 1 + 1) 54 #[.int .u32 0, .int .i64 0, .int .i64 3, .int .i64 0, .int .u32 0, .int .i64 0, .int .i64 0, .int .i64 0, .slice none 0 0, .int .u32 0, .int .i64 0, .int .i64 0, .slice none 0 0, .int .i64 4, .slice (some ⟨w6.heap.size, 0, none⟩) 1 1, .int .i64 (-1), .int .u32 0, .int .i64 0, .int .i64 3, .int .i64 0, .int .u32 0, .int .i64 0, .int .i64 0, .int .i64 0, .slice none 0 0, .int .u32 0, .int .i64 0, .int .i64 0, .slice none 0 0, .int .i64 4, .slice (some ⟨w6.heap.size, 0, none⟩) 1 1, .int .i64 (-1)] := by
    have := Blk.new ((w6.alloc (.cells #[.int .i64 0, .int .u32 0, .int .i64 0, .int .i64 0, .int .i64 0, .slice none 0 0, .int .u32 0, .int .i64 0, .int .i64 0, .slice none 0 0, .int .i64 5] 51)).alloc (.cells #[.int .u32 0, .int .i64 0, .int .i64 3, .int .i64 0, .int .u32 0, .int .i64 0, .int .i64 0, .int .i64 0, .slice none 0 0, .int .u32 0, .int .i64 0, .int .i64 0, .slice none 0 0, .int .i64 4, .slice (some ⟨w6.heap.size, 0, none⟩) 1 1, .int .i64 (-1)] 54)) 54 #[.int .u32 0, .int .i64 0, .int .i64 3, .int .i64 0, .int .u32 0, .int .i64 0, .int .i64 0, .int .i64 0, .slice none 0 0, .int .u32 0, .int .i64 0, .int .i64 0, .slice none 0 0, .int .i64 4, .slice (some ⟨w6.heap.size, 0, none⟩) 1 1, .int .i64 (-1), .int .u32 0, .int .i64 0, .int .i64 3, .int .i64 0, .int .u32 0, .int .i64 0, .int .i64 0, .int .i64 0, .slice none 0 0, .int .u32 0, .int .i64 0, .int .i64 0, .slice none 0 0, .int .i64 4, .slice (some ⟨w6.heap.size, 0, none⟩) 1 1, .int .i64 (-1)]
    rw [World.size_alloc, World.size_alloc] at this
    exact this
  have HWI := Lib.hid (lWants_in hO9 hVV9)
  have HL9 := Lib.hid (HL6.out.below hb9)
  have HB9 := Lib.hid (HB6.out.trans (hb9.mono HB6.out.size))
  have HV9 := Lib.hid hV9
  have HO9 := Lib.hid hO9
  have HNE := Lib.hid (show ¬ w6.heap.size + 1 = g ∧ ¬ w6.heap.size + 1 = b ∧ w.heap.size ≤ w6.heap.size + 1 from by
    have h1 := HL6.out.blk.lt
    obtain ⟨D, h2, _⟩ := HL6.out.map
    have h3 := h2.lt
    have h4 := HB6.out.size
    omega)
  clear hb9 hO9 hVV9 hV9 HL6 HB6
  have hne : ¬ w6.heap.size + 1 = g ∧ ¬ w6.heap.size + 1 = b ∧ w.heap.size ≤ w6.heap.size + 1 := HNE.out
  generalize ((w6.alloc (.cells #[.int .i64 0, .int .u32 0, .int .i64 0, .int .i64 0, .int .i64 0, .slice none 0 0, .int .u32 0, .int .i64 0, .int .i64 0, .slice none 0 0, .int .i64 5] 51)).alloc (.cells #[.int .u32 0, .int .i64 0, .int .i64 3, .int .i64 0, .int .u32 0, .int .i64 0, .int .i64 0, .int .i64 0, .slice none 0 0, .int .u32 0, .int .i64 0, .int .i64 0, .slice none 0 0, .int .i64 4, .slice (some ⟨w6.heap.size, 0, none⟩) 1 1, .int .i64 (-1)] 54)).alloc (.cells #[.int .u32 0, .int .i64 0, .int .i64 3, .int .i64 0, .int .u32 0, .int .i64 0, .int .i64 0, .int .i64 0, .slice none 0 0, .int .u32 0, .int .i64 0, .int .i64 0, .slice none 0 0, .int .i64 4, .slice (some ⟨w6.heap.size, 0, none⟩) 1 1, .int .i64 (-1), .int .u32 0, .int .i64 0, .int .i64 3, .int .i64 0, .int .u32 0, .int .i64 0, .int .i64 0, .int .i64 0, .slice none 0 0, .int .u32 0, .int .i64 0, .int .i64 0, .slice none 0 0, .int .i64 4, .slice (some ⟨w6.heap.size, 0, none⟩) 1 1, .int .i64 (-1)] 54) = w9 at *
  generalize w6.heap.size = g1 at *
  have H := project_any (c := 2) HWI.out (by simp)
  rw [l6] at H
  refine H.mono ?_
  clear H
  rintro e w10 ⟨gp, bp, rfl, hlp, hbp, hgp, hbbp⟩
  have HLP := Lib.hid hlp
  have HL10 := Lib.hid (HL9.out.below hbp)
  have HV10 := Lib.hid (HV9.out.below hbp HV9.out.lt)
  have HO10 := Lib.hid (HO9.out.below hbp HO9.out.lt)
  have HB10 := Lib.hid (HB9.out.trans (hbp.mono HB9.out.size))
  have hv9 := HV9.out.lt
  clear hlp hbp HL9 HWI
  have hq15 : w10.cell? ⟨g1 + 1, 15, none⟩ = some (.int .i64 (-1)) := HV10.out.cell 15
  have hq15f := HV10.out.frozen 15
  have ho : Only (fun k => k = g1 + 1) w10 (w10.setCell ⟨g1 + 1, 15, none⟩ (.int .i64 0)) := (Only.refl (fun k => k = g1 + 1) w10).setCell (p := ⟨g1 + 1, 15, none⟩) (fun _ => rfl) _
  have HV11 := Lib.hid (show Blk (w10.setCell ⟨g1 + 1, 15, none⟩ (.int .i64 0)) (g1 + 1) 54 (lWant g1 0).cs from HV10.out.set_ 15 (.int .i64 0))
  have HO11 := Lib.hid (HO10.out.only ho (by omega))
  have HL11 := Lib.hid (HL10.out.only ho (by omega) (by omega))
  have HLP11 := Lib.hid (HLP.out.only ho (by omega) (by omega))
  have HB11 := Lib.hid (HB10.out.trans (ho.below HB10.out.size (fun i hi => by omega)))
  clear ho HV10 HO10 HL10 HLP HB10
  have hp2 := ptr_some2
  go_wp2_with fail
  generalize w10.setCell ⟨g1 + 1, 15, none⟩ (.int .i64 0) = w11 at *
  refine (all_any HL11.out o5 (by omega)).mono ?_
  rintro e w12 ⟨v, rfl, hown, hb⟩
  obtain ⟨A, ca, rfl, hrd⟩ := own_readsN hown
  have HRD := Lib.hid hrd
  have HV12 := Lib.hid (HV11.out.below hb HV11.out.lt)
  have HO12 := Lib.hid (HO11.out.below hb HO11.out.lt)
  have HL12 := Lib.hid (HL11.out.below hb)
  have HLP12 := Lib.hid (HLP11.out.below hb)
  have HB12 := Lib.hid (HB11.out.trans (hb.mono HB11.out.size))
  clear hown hrd hb HV11 HO11 HL11 HLP11 HB11
  have hba := below_a1 w12 (.cells #[.int .i64 2, .int .i64 6] 63)
  have HRX := Lib.hid (HRD.out.alloc (.cells #[.int .i64 2, .int .i64 6] 63))
  have HRY := Lib.hid (reads_of_blk (Blk.new w12 63 #[.int .i64 2, .int .i64 6]))
  have HV13 := Lib.hid (HV12.out.below hba HV12.out.lt)
  have HO13 := Lib.hid (HO12.out.below hba HO12.out.lt)
  have HL13 := Lib.hid (HL12.out.below hba)
  have HLP13 := Lib.hid (HLP12.out.below hba)
  have HB13 := Lib.hid (HB12.out.trans (hba.mono HB12.out.size))
  clear hba HV12 HO12 HL12 HLP12 HB12 HRD
  go_wp2_with fail
  have H := same_any (c := ca) (d := 1) (s := [(2, 6)]) HRX.out HRY.out (by simp)
  refine H.mono ?_
  clear H HRX HRY
  rintro e w14 ⟨rfl, hb⟩
  generalize w12.alloc (.cells #[.int .i64 2, .int .i64 6] 63) = w13 at *
  have HV14 := Lib.hid (HV13.out.below hb HV13.out.lt)
  have HO14 := Lib.hid (HO13.out.below hb HO13.out.lt)
  have HL14 := Lib.hid (HL13.out.below hb)
  have HLP14 := Lib.hid (HLP13.out.below hb)
  have HB14 := Lib.hid (HB13.out.trans (hb.mono HB13.out.size))
  clear hb HV13 HO13 HL13 HLP13 HB13
  go_wp2_with fail
  refine (over_any HL14.out).mono ?_
  rintro e w' ⟨rfl, rfl⟩
  go_wp2_with fail
  refine (of_any HLP14.out 4 rfl).mono ?_
  rintro e w' ⟨rfl, rfl⟩
  rw [show getZ (LD.mk [(4, 6)] false).s 4 = 6 from rfl]
  have hface := face_run (.int .i64 0) (.int .u32 0) (.int .i64 0) (.int .i64 0) (.int .i64 0) (.slice none 0 0) (.int .u32 0) (.int .i64 0) (.int .i64 0) (.slice none 0 0) 5
  have HTK := Lib.hid (show Calls Try.prog 24 #[.agg (lWant g1 0).cs] w14 fun e w' => e = .returned (.agg #[.int .i64 0, .int .u32 0, .int .i64 0, .int .i64 0, .int .i64 0, .slice none 0 0, .int .u32 0, .int .i64 0, .int .i64 0, .slice none 0 0, .int .i64 5]) ∧ Below w14.heap.size w14 w' from taken_any (lWant g1 0) (lWant_ok g1 0) ((reads_of_blk HO14.out).mono (fun _ _ _ => trivial)) 0 rfl)
  go_wp2_with (refine wpList_load_blk (by rfl) 54 (.tmp 5) rfl (g1 + 1) (by rfl) _ _ _ HV14.out Try.underlying54 rfl (by kernel_rfl) ?_)
  refine (HTK.out).mono ?_
  rintro e w15 ⟨rfl, hb⟩
  have HB15 := Lib.hid (HB14.out.trans (hb.mono HB14.out.size))
  clear hb
  go_wp2_with fail
  go_ret
  exact ⟨rfl, HB15.out⟩
end Go.Proofs.Ytneablcgcdmgpaa
