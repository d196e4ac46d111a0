/-
  Flow: may rooms be, the program's Check. No condition but that the rooms read as data.
-/
import Derived.Test.YtpbghlobkdjpiaaDoorFlowA
namespace Go.Proofs.YtpbghlobkdjpiaaDoor
open Go.ChangeShapes Go.WideShapes Go.ChangeAt Go.RowKit Go.Maps

theorem quiet_same {P : Program} {f : FuncId} {args : Array Value} {w : World} {n : Nat} {v : Value}
    (h : Calls P f args (w.drewN n) fun e w' => e = .returned v ∧ w.drewN n = w') : Calls P f args (w.drewN n) fun e w'' => e = .returned v ∧ ∃ m, w'' = w.drewN m :=
  h.mono fun _ _ ⟨he, hm⟩ => ⟨he, n, hm.symm⟩

/-- rooms as cells -/
def roomCells (rs : List (Int × Int)) : List Value := rs.flatMap fun r => [.int .i64 r.1, .int .i64 r.2]
def roomArr (r : Int × Int) : Array Value := #[.int .i64 r.1, .int .i64 r.2]
def goodR (r : Int × Int) : Bool := decide (0 ≤ r.1) && decide (nearZ r.2 = r.2)
/-- may rooms be? -/
def okR (rs : List (Int × Int)) : Bool := rs.all goodR && decide ((ifsOf rs).Nodup) && decide (rs.length ≤ 10)
def errR (rs : List (Int × Int)) : Int := if okR rs then 0 else 1
def RoomsWf (rs : List (Int × Int)) : Prop := ∀ r ∈ rs, (Lit.int .i64 r.1).wf = true ∧ (Lit.int .i64 r.2).wf = true

/-- what was seen, as a map reads -/
structure SeenOf (D : DataW Unit) (l : List Int) : Prop where
  has : ∀ x, Maps.has D (.int .i64 x) = decide (x ∈ l)
  le : Maps.size D ≤ l.length
  nodup : l.Nodup → Maps.size D = l.length
  dup : ¬ l.Nodup → Maps.size D < l.length
theorem SeenOf.nil : SeenOf (.map []) [] := ⟨fun x => by simp [Maps.has], by simp [Maps.size], fun _ => rfl, fun h => by simp at h⟩
theorem SeenOf.snoc {D : DataW Unit} {l : List Int} (h : SeenOf D l) (ht : Maps.Tidy D) (x : Int) (d : DataW Unit) : SeenOf (D.put (.int .i64 x) d) (l ++ [x]) := by
  have hs := Maps.size_put (k := .int .i64 x) ht d
  rw [h.has x] at hs
  have hle := h.le
  refine ⟨fun y => ?_, ?_, fun hn => ?_, fun hn => ?_⟩
  · by_cases e : y = x
    · subst e
      rw [Maps.has_put_same ht.isMap (show WideAt.IsKeyLit (Lit.int .i64 y) from trivial)]
      simp
    · rw [Maps.has_put_other (key_ne e), h.has y]
      simp [e]
  · rw [hs]
    simp
    split <;> omega
  · rw [List.nodup_append] at hn
    have hx : ¬ x ∈ l := fun hx => hn.2.2 x hx x (by simp) rfl
    rw [hs, decide_eq_false hx, h.nodup hn.1]
    simp
  · rw [hs]
    by_cases hx : x ∈ l
    · rw [decide_eq_true hx]
      simp
      omega
    · rw [decide_eq_false hx]
      have : ¬ l.Nodup := fun h1 => hn (List.nodup_append.2 ⟨h1, by simp, fun a ha b hb e => by simp at hb; subst hb; subst e; exact hx ha⟩)
      have := h.dup this
      simp
      omega

theorem errR_bad {rs : List (Int × Int)} {k : Nat} (hk : k < rs.length) (h : goodR rs[k] = false) : errR rs = 1 := by
  have : rs.all goodR = false := List.all_eq_false.2 ⟨rs[k], List.getElem_mem hk, by rw [h]; decide⟩
  simp [errR, okR, this]
theorem ifs_take (rs : List (Int × Int)) (k : Nat) (hk : k < rs.length) : (ifsOf rs).take (k + 1) = (ifsOf rs).take k ++ [rs[k].1] := by
  rw [List.take_succ_eq_append_getElem (by simpa [ifsOf] using hk)]
  simp [ifsOf]

set_option maxHeartbeats 1000000 in
theorem check_any {F : Nat → Prop} {w : World} (A : Option Addr) (c : Nat) (rs : List (Int × Int)) (hlen : rs.length ≤ 9223372036854775807) (hr : Reads w F A (roomCells rs)) (hwf : RoomsWf rs) :
    Calls Tryd.prog 11 #[.slice A rs.length c] w fun e w' => e = .returned (.int .i64 (errR rs)) ∧ Below w.heap.size w w' := by
  have hmm := @run_makeMap Tryd.prog
  have HWF := Lib.hid hwf
  clear hwf
  go_enter Tryd.func11, Tryd.ntmps11
  go_wp2_with fail
  go_loopw [9] (fun i wr => ∃ (k : Nat) (D : DataW Unit), k ≤ rs.length ∧ i = .int .i64 k ∧ wr.ownsMap Tryd.prog 3 (plainElem Tryd.prog 4) w.heap.size k D ∧ SeenOf D ((ifsOf rs).take k) ∧ (rs.take k).all goodR = true ∧ Below w.heap.size w wr) (fun i _ => rs.length - (intOf i).toNat)
  case atStart => exact ⟨0, .map [], Nat.zero_le _, rfl, World.ownsMap_made _ _ _ _, SeenOf.nil, rfl, below_a1 _ _⟩
  case round =>
    obtain ⟨k, D, hk, rfl, hown, hseen, hgood, hb⟩ := hrel
    have HG := Lib.hid hgood
    have HS := Lib.hid hseen
    clear hgood hseen
    by_cases hkl : k < rs.length
    · obtain ⟨b, off, rfl, _, hbw, hrg⟩ := hr.rangeAt (sz := 2) (by omega) (fun _ _ => rfl) hkl
      have hrg1 : wr.rangeAt b (off + k * 2) [.int .i64 rs[k].1, .int .i64 rs[k].2] := fun j v hj => (hb.cell (p := ⟨b, off + k * 2 + j, none⟩) hbw).trans (hrg j v hj)
      have HB := Lib.hid (errR_bad hkl)
      have HT := Lib.hid (ifs_take rs k hkl)
      have HG2 := Lib.hid (List.take_succ_eq_append_getElem hkl)
      have HW := Lib.hid (HWF.out _ (List.getElem_mem hkl))
      clear hrg
      generalize hx : rs[k] = x at *
      have HX := Lib.hid hx
      clear hx
      obtain ⟨a, n⟩ := x
      simp only at *
      by_cases ha : a < 0
      · have hb1 := HB.out (by simp [goodR]; omega)
        have HE := Lib.hid hb1
        clear hb1
        go_wp2_with (first | (refine wpList_load_mid rfl 57 (.tmp 11) rfl b (off + k * 2) rfl _ _ hrg1 Tryd.underlying57 rfl (by kernel_rfl) ?_) | (refine wpList_store_new (by rfl) 57 (.tmp 5) (.tmp 12) rfl wr _ #[.int .i64 a, .int .i64 n] (by rfl) (by rfl) (by rfl) (by kernel_rfl) (by rfl) (by rfl) ?_))
        go_quiet (fail)
        go_wp2_with fail
        go_ret
        exact ⟨by rw [HE.out]; rfl, by first | exact (hb.alloc hb.size _) | exact below_drewN' (hb.alloc hb.size _) _⟩
      · have hd : decide (a < 0) = false := by simpa using ha
        by_cases hn : nearZ n = n
        · go_wp2_with (first | (refine wpList_load_mid rfl 57 (.tmp 11) rfl b (off + k * 2) rfl _ _ hrg1 Tryd.underlying57 rfl (by kernel_rfl) ?_) | (refine wpList_store_new (by rfl) 57 (.tmp 5) (.tmp 12) rfl wr _ #[.int .i64 a, .int .i64 n] (by rfl) (by rfl) (by rfl) (by kernel_rfl) (by rfl) (by rfl) ?_))
          go_quiet ((go_at_call 24; exact quiet_same (near_any _ _)))
          have hown1 : ((wr.alloc (.cells #[.int .i64 a, .int .i64 n] 57)).drewN nq).ownsMap Tryd.prog 3 (plainElem Tryd.prog 4) w.heap.size k D := hown.alloc _
          have hbd := below_drewN' (hb.alloc hb.size (.cells #[.int .i64 a, .int .i64 n] 57)) nq
          have HD := Lib.hid (hown.tidy law3)
          go_wp2_with (at_mapUpdate; refine wpList_mapUpdate_own _ rfl _ _ _ 64 rfl 3 4 law3 Tryd.underlying64 _ w.heap.size k _ rfl hown1 (by unfold maxLen; omega) _ _ _ rfl rfl (keyOf_int_mk Tryd.underlying3 HW.out.1) _ [] (plainElem_bool Tryd.underlying4 true) ?_; intro w1 hown2 hgrow)
          have hb2 := hbd.grown hgrow hbd.size (fun j hj => by cases hj; exact Nat.le_refl _)
          go_roundw
          case rel =>
            exact ⟨k + 1, _, by omega, by go_num, hown2, by rw [HT.out]; exact HS.out.snoc HD.out a _, by
              rw [HG2.out, List.all_append, HG.out]
              simp [goodR, hn]
              omega, hb2⟩
          case measure => simp [intOf]; omega
        · have hb1 := HB.out (by simp [goodR, hn])
          have HE := Lib.hid hb1
          have hn2 : ¬ n = nearZ n := fun e => hn e.symm
          clear hb1 hn
          have hd2 : (n == nearZ n) = false := by simpa using hn2
          go_wp2_with (first | (refine wpList_load_mid rfl 57 (.tmp 11) rfl b (off + k * 2) rfl _ _ hrg1 Tryd.underlying57 rfl (by kernel_rfl) ?_) | (refine wpList_store_new (by rfl) 57 (.tmp 5) (.tmp 12) rfl wr _ #[.int .i64 a, .int .i64 n] (by rfl) (by rfl) (by rfl) (by kernel_rfl) (by rfl) (by rfl) ?_))
          go_quiet ((go_at_call 24; exact quiet_same (near_any _ _)))
          go_wp2_with fail
          go_ret
          exact ⟨by rw [HE.out]; rfl, below_drewN' (hb.alloc hb.size _) _⟩
    · obtain rfl : k = rs.length := by omega
      have hall : rs.all goodR = true := by rw [← HG.out, List.take_length]
      have hseen : SeenOf D (ifsOf rs) := by have := HS.out; rwa [List.take_of_length_le (by simp [ifsOf])] at this
      have hle := hseen.le
      rw [show (ifsOf rs).length = rs.length by simp [ifsOf]] at hle
      have hown1 := hown
      by_cases hnd : (ifsOf rs).Nodup
      · have hs : Maps.size D = rs.length := by rw [hseen.nodup hnd]; simp [ifsOf]
        have hs1 : ¬ ((Maps.size D : Int) < (rs.length : Int)) := by omega
        by_cases h10 : rs.length ≤ 10
        · have HE := Lib.hid (show errR rs = 0 by simp [errR, okR, hall, hnd, h10])
          have h11 : ¬ ((10 : Int) < (rs.length : Int)) := by omega
          clear hs hall hseen hnd
          go_wp2_with (refine wpList_len_own _ rfl (.tmp 28) 64 rfl 3 4 Tryd.underlying64 _ w.heap.size _ D rfl hown1 ?_)
          go_ret
          exact ⟨by rw [HE.out]; rfl, hb⟩
        · have HE := Lib.hid (show errR rs = 1 by simp [errR, okR, h10])
          have h11 : ((10 : Int) < (rs.length : Int)) := by omega
          clear hs hall hseen hnd
          go_wp2_with (refine wpList_len_own _ rfl (.tmp 28) 64 rfl 3 4 Tryd.underlying64 _ w.heap.size _ D rfl hown1 ?_)
          go_ret
          exact ⟨by rw [HE.out]; rfl, hb⟩
      · have hs := hseen.dup hnd
        rw [show (ifsOf rs).length = rs.length by simp [ifsOf]] at hs
        have hs1 : ((Maps.size D : Int) < (rs.length : Int)) := by omega
        have HE := Lib.hid (show errR rs = 1 by simp [errR, okR, hnd])
        clear hs hall hseen hnd
        go_wp2_with (refine wpList_len_own _ rfl (.tmp 28) 64 rfl 3 4 Tryd.underlying64 _ w.heap.size _ D rfl hown1 ?_)
        go_ret
        exact ⟨by rw [HE.out]; rfl, hb⟩
end Go.Proofs.YtpbghlobkdjpiaaDoor
