/-
  Heads: ContainsFunc at the marks, wrong: one contract each. No condition but that bytes read as data.
-/
import Derived.Test.YtbmbpcibihddaaaDoorFrameA
import Derived.Test.YtbmbpcibihddaaaDoorNoteB
import Derived.Deep.RegionHeld3
import Derived.Deep.RegionWith
namespace Go.Proofs.YtbmbpcibihddaaaDoor
open Go.ChangeShapes Go.WideShapes Go.ChangeAt Go.RowKit

/-- is one of the marks wrong? -/
def badMark (l : List UInt8) : Bool := l.any fun x => decide (x ≠ 255)
theorem bad_at {l : List UInt8} {k : Nat} (hk : k < l.length) (h : l[k] ≠ 255) : badMark l = true := by
  unfold badMark
  rw [List.any_eq_true]
  exact ⟨l[k], List.getElem_mem hk, by simpa using h⟩
theorem bad_step {l : List UInt8} {k : Nat} (hk : k < l.length) (h : l[k] = 255) (hb : badMark (l.take k) = false) : badMark (l.take (k + 1)) = false := by
  rw [List.take_succ_eq_append_getElem hk]
  unfold badMark at hb ⊢
  rw [List.any_append, hb]
  simp [h]

theorem mark_yes (w : World) : Calls Tryd.prog 77 #[.int .u8 255] w fun e w' => e = .returned (.bool false) ∧ w' = w := by
  go_enter Tryd.func77, Tryd.ntmps77
  go_wp2_with fail
  go_ret
  exact ⟨rfl, rfl⟩
theorem mark_no (n : Nat) (h : n ≠ 255) (w : World) : Calls Tryd.prog 77 #[.int .u8 n] w fun e w' => e = .returned (.bool true) ∧ w' = w := by
  have hn : ¬ (n : Int) = 255 := by omega
  go_enter Tryd.func77, Tryd.ntmps77
  go_wp2_with fail
  go_ret
  exact ⟨by simp [hn], rfl⟩

theorem index_mark (A : Option Addr) (c : Nat) (l : List UInt8) (F : Nat → Prop) (w : World) (hl : l.length ≤ 9223372036854775807) (hr : Reads w F A (l.map vb)) :
    Calls Tryd.prog 82 #[.slice A l.length c, .func (.func 77) #[] #[]] w fun e w' => (∃ r : Int, e = .returned (.int .i64 r) ∧ decide (0 ≤ r) = badMark l) ∧ w' = w := by
  go_enter Tryd.func82, Tryd.ntmps82
  go_wp2_with fail
  go_loopw [8] (fun i wr => ∃ k : Nat, k ≤ l.length ∧ i = .int .i64 k ∧ wr = w ∧ badMark (l.take k) = false) (fun i _ => l.length - (intOf i).toNat)
  case atStart => exact ⟨0, by omega, rfl, rfl, rfl⟩
  case round =>
    obtain ⟨k, hk, rfl, rfl, hb⟩ := hrel
    by_cases hkl : k < l.length
    · obtain ⟨b, off, rfl, _, hbl, hc⟩ := hr.at_ (k := k) (by simpa using hkl)
      simp only [List.getElem_map, vb] at hc
      have k1 : (k : Int) < (l.length : Int) := by omega
      by_cases he : l[k] = 255
      · have HT := Lib.hid (bad_step hkl he hb)
        have h255 : (l[k].toNat : Int) = 255 := by rw [he]; rfl
        rw [h255] at hc
        clear hb hr he h255
        go_wp2_with fail
        refine (mark_yes _).mono ?_
        rintro e w' ⟨rfl, rfl⟩
        go_wp2_with fail
        exact ⟨⟨k + 1, by omega, by simp, by first | rfl | trivial, HT.out⟩, by simp [intOf]; omega⟩
      · have HB := Lib.hid (bad_at hkl he)
        have hne : l[k].toNat ≠ 255 := fun h => he (UInt8.toNat_inj.1 h)
        clear hb hr he
        generalize l[k].toNat = x at hc hne
        go_wp2_with fail
        refine (mark_no x hne _).mono ?_
        rintro e w' ⟨rfl, rfl⟩
        go_wp2_with fail
        go_ret
        exact ⟨⟨k, rfl, by rw [HB.out]; simp⟩, by first | rfl | trivial⟩
    · obtain rfl : k = l.length := by omega
      rw [List.take_length] at hb
      have HB := Lib.hid hb
      clear hb
      go_wp2_with fail
      go_ret
      exact ⟨⟨-1, rfl, by rw [HB.out]; simp⟩, rfl⟩

theorem contains_mark (A : Option Addr) (c : Nat) (l : List UInt8) (F : Nat → Prop) (w : World) (hl : l.length ≤ 9223372036854775807) (hr : Reads w F A (l.map vb)) :
    Calls Tryd.prog 76 #[.slice A l.length c, .func (.func 77) #[] #[]] w fun e w' => e = .returned (.bool (badMark l)) ∧ w' = w := by
  go_enter Tryd.func76, Tryd.ntmps76
  go_wp2_with fail
  refine (index_mark A c l F _ hl hr).mono ?_
  rintro e w' ⟨⟨r, rfl, hq⟩, rfl⟩
  have HR := Lib.hid hq
  clear hq
  go_wp2_with fail
  go_ret
  exact ⟨by rw [← HR.out]; rfl, rfl⟩

theorem results_tmp_tmp_cell {P : Program} {fn : Func} {p q r : Tmp} {ty : TypeId} (h : fn.results = #[.tmp p, .tmp q, .cell r ty]) (tmps : Array Value) (w : World) (g : Nat) (t : TypeId) (cs : Array Value) (fr : Nat × Nat) (d : TypeDesc)
    (hp : tmps.getD r undef = .pointer (some ⟨g, 0, none⟩)) (hg : w.heap[g]? = some (.cells cs t fr))
    (hu : P.underlying ty = some d) (hd : (match d with | .struct _ | .array _ _ => true | _ => false) = true) (hi : (P.info? ty).map (·.size) = some cs.size) :
    (results fn tmps).run P w = .ok (.tuple #[tmps.getD p undef, tmps.getD q undef, .agg cs]) w := by
  have hp' : tmps[r]?.getD undef = .pointer (some ⟨g, 0, none⟩) := by simpa using hp
  simp [results, h, hp', asAddr, run_loadVar_row w g t ty cs fr d hg hu hd hi]

theorem wrong_any (sub : Int) (A : Option Addr) (c : Nat) (d : List UInt8) (F : Nat → Prop) (w : World) (hl : d.length ≤ 140737488355328) (hr : Reads w F A (d.map vb)) :
    Calls Tryd.prog 78 #[.int .i64 sub, .slice A d.length c] w fun e w' => ∃ v, e = .returned (.tuple #[.int .i64 0, .int .i64 0, .agg #[.int .i64 1, .int .i64 sub, v]]) ∧ w'.ownsRow w.heap.size 5 1 v d.length (d.map vb) ∧ Below w.heap.size w w' := by
  have hB1 := Blk.new w 37 #[.int .i64 0, .int .i64 0, .slice none 0 0]
  have hb1 := (Below.refl w.heap.size w).alloc (Nat.le_refl _) (.cells #[.int .i64 0, .int .i64 0, .slice none 0 0] 37)
  have hr1 := hr.alloc (.cells #[.int .i64 0, .int .i64 0, .slice none 0 0] 37)
  clear hr
  go_enter Tryd.func78, Tryd.ntmps78
  go_wp2_with fail
  refine (clone_u8 A c d F _ hl hr1).mono ?_
  rintro e w2 ⟨v, rfl, hown, hb⟩
  have hM2 := hB1.below hb hB1.lt
  have hb2 := hb1.trans (hb.mono hb1.size)
  have hz2 := hM2.lt
  obtain ⟨A1, c1, hv, -⟩ := own_reads hown
  subst hv
  have hM3 := hM2.setRow_ #[.int .i64 1, .int .i64 sub, .slice A1 d.length c1]
  have hb3 := below_setRow hb2 (g := w.heap.size) (Nat.le_refl _) #[.int .i64 1, .int .i64 sub, .slice A1 d.length c1]
  have hown3 := own_mono (own_only hown (only_setRow w2 w.heap.size #[.int .i64 1, .int .i64 sub, .slice A1 d.length c1]) (fun k hk e => by have := (hown.lt k hk).1; simp at this; omega)) (show w.heap.size ≤ _ by simp)
  have HO := Lib.hid hown3
  clear hown hown3 hb2 hb hr1
  go_wp2_with (refine wpList_store_blk (by rfl) 37 (.tmp 6) (.tmp 10) rfl w.heap.size #[.int .i64 1, .int .i64 sub, .slice A1 d.length c1] (by rfl) (by rfl) 37 _ hM2 (by kernel_rfl) (by rfl) (note_one _ _ _ _ _) ?_)
  refine bodyPost_ret (results_tmp_tmp_cell rfl _ _ _ 37 #[.int .i64 1, .int .i64 sub, .slice A1 d.length c1] (0, 0) _ (by simp [Act.put]) hM3 Tryd.underlying37 rfl (by kernel_rfl)) rfl ?_
  exact ⟨_, by simp [Act.put], HO.out, hb3⟩
end Go.Proofs.YtbmbpcibihddaaaDoor
