/-
  Loads, the document's: in memory; one of them, setting one. Under: they stand in memory.
-/
import Derived.Test.YtneablcgcdmgpaaLoadF
namespace Go.Proofs.Ytneablcgcdmgpaa
open Go.ChangeShapes Go.WideShapes Go.ChangeAt Go.RowKit Go.Maps

/-- the document's loads as they stand in memory -/
structure RefAt (w : World) (F : Nat → Prop) (h : Nat) (x : LD) : Prop where
  mem : ∃ A c, Blk w h 28 #[.slice A x.s.length c, .bool x.o] ∧ Reads w F A (lcells x.s)
  off : ¬ F h
theorem RefAt.lt {w : World} {F : Nat → Prop} {h : Nat} {x : LD} (r : RefAt w F h x) : h < w.heap.size := by
  obtain ⟨A, c, h1, _⟩ := r.mem
  exact h1.lt
theorem RefAt.only {w w' : World} {F S : Nat → Prop} {h : Nat} {x : LD} (r : RefAt w F h x) (ho : Only S w w') (hh : ¬ S h) (hF : ∀ k, k < w.heap.size → F k → ¬ S k) : RefAt w' F h x := by
  obtain ⟨A, c, h1, h2⟩ := r.mem
  exact ⟨⟨A, c, h1.only ho hh, h2.only ho hF⟩, r.off⟩
theorem RefAt.below {w w' : World} {F : Nat → Prop} {h : Nat} {x : LD} (r : RefAt w F h x) (hb : Below w.heap.size w w') : RefAt w' F h x := by
  obtain ⟨A, c, h1, h2⟩ := r.mem
  exact ⟨⟨A, c, h1.below hb h1.lt, h2.below hb (fun _ h _ => h)⟩, r.off⟩
theorem own_readsB {w : World} {B size : Nat} {e : TypeId} {n : Nat} {v : Value} {xs : List Value} (h : w.ownsRow B e size v n xs) : ∃ A c, v = .slice A n c ∧ Reads w (fun k => B ≤ k) A xs := by
  have h1 := h.1
  rcases h.2 with ⟨rfl, rfl⟩ | ⟨g, cap, cur, hv, hg, hh, hn, hc, hs, ht⟩
  · have : xs = [] := List.eq_nil_of_length_eq_zero (by simpa using h1)
    subst this
    exact ⟨none, 0, rfl, Reads.nil⟩
  · refine ⟨some ⟨g, 0, none⟩, cap, hv, .inr ⟨g, 0, rfl, hg, ?_, fun j u hj => ?_⟩⟩
    · rcases Nat.lt_or_ge g w.heap.size with hl | hge
      · exact hl
      · rw [Array.getElem?_eq_none hge] at hh; cases hh
    · have hc' := h.cells (g := g) (by rw [hv]; rfl) j u hj
      rw [addr_add rfl] at hc'
      exact hc'
theorem keys_take {s : LS} {k : Nat} (hk : k < s.length) : keysL (s.take (k + 1)) = keysL (s.take k) ++ [s[k].1] := by
  unfold keysL
  rw [List.take_succ_eq_append_getElem hk, List.map_append]
  rfl

set_option maxRecDepth 10000 in
theorem rof_any {w : World} {F : Nat → Prop} {h : Nat} {x : LD} (r : RefAt w F h x) (hx : x.ok) (hl : x.s.length ≤ 1000000) (i : Int) :
    Calls Try.prog 18 #[.pointer (some ⟨h, 0, none⟩), .int .i64 i] w fun e w' => e = .returned (.int .i64 (getZ x.s i)) ∧ w = w' := by
  obtain ⟨A, c, hB, hrd⟩ := r.mem
  have hc0 := hB.cell 0
  simp at hc0
  have HRD := Lib.hid hrd
  have HR := Lib.hid hx.ris
  obtain ⟨s, o⟩ := x
  simp only at *
  clear r hx hB hrd
  go_enter Try.func18, Try.ntmps18
  go_wp2_with fail
  go_loop [5] (fun j => ∃ k : Nat, k ≤ s.length ∧ j = .int .i64 k ∧ i ∉ keysL (s.take k)) (fun j => s.length - (intOf j).toNat)
  case atStart => exact ⟨0, Nat.zero_le _, rfl, by simp [keysL]⟩
  case round =>
    obtain ⟨k, hk, rfl, hnot⟩ := hrel
    have HN := Lib.hid hnot
    clear hnot
    by_cases hkl : k < s.length
    · obtain ⟨b, off, rfl, hl1, _, p0, p1⟩ := load_at HRD.out hkl
      have HG := Lib.hid (getZ_at HR.out hkl)
      have HT := Lib.hid (keys_take hkl)
      generalize s[k] = p at *
      obtain ⟨a, m⟩ := p
      simp only at *
      by_cases ha : a = i
      · subst ha
        have HE := Lib.hid HG.out
        go_wp2_with fail
        go_ret
        exact ⟨by rw [HE.out] <;> rfl, rfl⟩
      · have ha2 : (a == i) = false := by simpa using ha
        go_wp2_with fail
        go_round
        case rel => exact ⟨k + 1, by omega, by go_num, by rw [HT.out, List.mem_append]; rintro (h | h); exact HN.out h; simp at h; exact ha h.symm⟩
        case measure => simp [intOf]; omega
    · obtain rfl : k = s.length := by omega
      have HE := Lib.hid (getZ_not (s := s) (x := i) (by have := HN.out; rwa [List.take_length] at this))
      go_wp2_with fail
      go_ret
      exact ⟨by rw [HE.out] <;> rfl, rfl⟩

theorem fold_take (x n : Int) {s : LS} {k : Nat} (hk : k < s.length) : (s.take (k + 1)).foldl (stepS x n) ([], false) = stepS x n ((s.take k).foldl (stepS x n) ([], false)) s[k] := by
  rw [List.take_succ_eq_append_getElem hk, List.foldl_append]
  rfl
/-- under way: the row so far, whether the new one is in -/
structure Way (w0 wr : World) (ov dv : Value) (t : LS × Bool) (k : Nat) : Prop where
  own : wr.ownsRow w0.heap.size 63 2 ov t.1.length (lcells t.1)
  done : dv = .bool t.2
  len : t.1.length ≤ 2 * k
  bel : Below w0.heap.size w0 wr
set_option maxRecDepth 10000 in
set_option maxHeartbeats 8000000 in
theorem rset_any {w : World} {F : Nat → Prop} {h : Nat} {y : LD} (r : RefAt w F h y) (hy : y.ok) (hl : y.s.length ≤ 1000000) (x n : Int) :
    Calls Try.prog 30 #[.pointer (some ⟨h, 0, none⟩), .int .i64 x, .int .i64 n] w fun e w' => e = .returned (.tuple #[]) ∧ RefAt w' (fun k => w.heap.size ≤ k) h ⟨setZ y.s x n, y.o⟩ ∧ Only (fun k => k = h) w w' := by
  have hlt := r.lt
  obtain ⟨A, c, hB, hrd⟩ := r.mem
  have HB := Lib.hid hB
  have HRD := Lib.hid hrd
  have HR := Lib.hid hy.ris
  obtain ⟨s, o⟩ := y
  simp only at *
  have HFS := Lib.hid (fold_set x n s [] HR.out)
  have hc0 := hB.cell 0
  have hf0 := hB.frozen 0
  simp at hc0
  clear r hy hB hrd
  obtain ⟨i0, hi, hz0, hz1, hz2⟩ := info_parts infoLoad
  go_enter Try.func30, Try.ntmps30
  go_wp2_with fail
  go_loopw [6, 7, 8] (fun ov dv j wr => ∃ k : Nat, k ≤ s.length ∧ j = .int .i64 k ∧ Way w wr ov dv ((s.take k).foldl (stepS x n) ([], false)) k) (fun _ _ j _ => s.length - (intOf j).toNat)
  case atStart => exact ⟨0, Nat.zero_le _, rfl, ⟨own_nil _ _ _ _, rfl, Nat.zero_le _, Below.refl _ _⟩⟩
  case round =>
    obtain ⟨k, hk, rfl, hW⟩ := hrel
    have hq0 := (hW.bel.cell (p := ⟨h, 0, none⟩) hlt).trans hc0
    have hq0f : wr.frozen? ⟨h, 0, none⟩ = false := (HB.out.below hW.bel hlt).frozen 0
    by_cases hkl : k < s.length
    · obtain ⟨b, off, rfl, hl1, _, p0, p1⟩ := load_at HRD.out hkl
      have P0 := Lib.hid p0
      have P1 := Lib.hid p1
      have p0 := (hW.bel.cell (p := ⟨b, off + k * 2, none⟩) hl1).trans p0
      have p1 := (hW.bel.cell (p := ⟨b, off + k * 2 + 1, none⟩) hl1).trans p1
      have HST := Lib.hid (fold_take x n hkl)
      obtain ⟨hown, hdone, hlen, hbel⟩ := hW
      generalize (s.take k).foldl (stepS x n) ([], false) = t at *
      generalize s[k] = p at *
      obtain ⟨a, m⟩ := p
      obtain ⟨out, dn⟩ := t
      simp only at *
      subst hdone
      have HBW := Lib.hid hbel
      have hO1 : (wr.alloc (.cells #[.int .i64 x, .int .i64 n] 63)).ownsRow w.heap.size 63 2 u6 out.length (lcells out) := own_alive hown (below_a1 _ _)
      have hR1 : Reads (wr.alloc (.cells #[.int .i64 x, .int .i64 n] 63)) (fun _ => True) (some ⟨wr.heap.size, 0, none⟩) [.int .i64 x, .int .i64 n] := (reads_of_blk (Blk.new wr 63 #[.int .i64 x, .int .i64 n])).mono (fun _ _ _ => trivial)
      have hO2 : (wr.alloc (.cells #[.int .i64 a, .int .i64 m] 63)).ownsRow w.heap.size 63 2 u6 out.length (lcells out) := own_alive hown (below_a1 _ _)
      have hR2 : Reads (wr.alloc (.cells #[.int .i64 a, .int .i64 m] 63)) (fun _ => True) (some ⟨wr.heap.size, 0, none⟩) [.int .i64 a, .int .i64 m] := (reads_of_blk (Blk.new wr 63 #[.int .i64 a, .int .i64 m])).mono (fun _ _ _ => trivial)
      have hszw := hbel.size
      by_cases hxa : x ≤ a
      · cases dn with
        | false =>
          by_cases hn : 0 < n
          · by_cases hax : a = x
            · have hab : (a != x) = false := by simpa using hax
              have HE := Lib.hid (show (s.take (k + 1)).foldl (stepS x n) ([], false) = (out ++ [(x, n)], true) by rw [HST.out]; simp [stepS, hax, hn])
              go_wp2_with (refine wpList_append_rd _ (by rfl) (.tmp 34) (.tmp 38) 26 rfl w.heap.size 63 i0 (.agg #[.int .i64 0, .int .i64 0]) 2 16 Try.underlying26 hi hz0 hz1 hz2 rfl (by omega) _ out.length (lcells out) (by rfl) hO1 (fun _ => True) _ 1 1 [.int .i64 x, .int .i64 n] (by rfl) (by rfl) hR1 (two_ints _ _) (by unfold maxLen; omega) (by omega) (by simp; omega) ?_; intro v4 w4 hown4 hg4 hat4; clear hat4; have hb4 : Below w.heap.size w w4 := below_grown (HBW.out.alloc HBW.out.size _) (by simp; omega) hg4 (fun j hj => (hO1.lt j hj).1); have hq4 := (hb4.cell (p := ⟨h, 0, none⟩) hlt).trans hc0; have p04 := (hb4.cell (p := ⟨b, off + k * 2, none⟩) hl1).trans P0.out; have p14 := (hb4.cell (p := ⟨b, off + k * 2 + 1, none⟩) hl1).trans P1.out)
              go_roundw
              case rel => exact ⟨k + 1, by omega, by go_num, by rw [HE.out]; exact ⟨by show World.ownsRow _ _ _ _ _ (out ++ [(x, n)]).length (lcells (out ++ [(x, n)])); rw [lcells_snoc, List.length_append]; exact hown4, rfl, by simp; omega, hb4⟩⟩
              case measure => simp [intOf]; omega
            · have hab : (a != x) = true := by simpa using hax
              have HE := Lib.hid (show (s.take (k + 1)).foldl (stepS x n) ([], false) = (out ++ [(x, n)] ++ [(a, m)], true) by rw [HST.out]; simp [stepS, hax, hn, hxa])
              go_wp2_with (first | (refine wpList_append_rd _ (by rfl) (.tmp 34) (.tmp 38) 26 rfl w.heap.size 63 i0 (.agg #[.int .i64 0, .int .i64 0]) 2 16 Try.underlying26 hi hz0 hz1 hz2 rfl (by omega) _ out.length (lcells out) (by rfl) hO1 (fun _ => True) _ 1 1 [.int .i64 x, .int .i64 n] (by rfl) (by rfl) hR1 (two_ints _ _) (by unfold maxLen; omega) (by omega) (by simp; omega) ?_; intro v4 w4 hown4 hg4 hat4; clear hat4; have hb4 : Below w.heap.size w w4 := below_grown (HBW.out.alloc HBW.out.size _) (by simp; omega) hg4 (fun j hj => (hO1.lt j hj).1); rw [show lcells out ++ [.int .i64 x, .int .i64 n] = lcells (out ++ [(x, n)]) by rw [lcells_snoc]] at hown4; have hO4 : (w4.alloc (.cells #[.int .i64 a, .int .i64 m] 63)).ownsRow w.heap.size 63 2 v4 (out.length + 1) (lcells (out ++ [(x, n)])) := own_alive hown4 (below_a1 _ _); have hR4 : Reads (w4.alloc (.cells #[.int .i64 a, .int .i64 m] 63)) (fun _ => True) (some ⟨w4.heap.size, 0, none⟩) [.int .i64 a, .int .i64 m] := (reads_of_blk (Blk.new w4 63 #[.int .i64 a, .int .i64 m])).mono (fun _ _ _ => trivial); have hsz4 := hb4.size; have hq4 := (hb4.cell (p := ⟨h, 0, none⟩) hlt).trans hc0; have p04 := (hb4.cell (p := ⟨b, off + k * 2, none⟩) hl1).trans P0.out; have p14 := (hb4.cell (p := ⟨b, off + k * 2 + 1, none⟩) hl1).trans P1.out) | (refine wpList_append_rd _ (by rfl) (.tmp 50) (.tmp 58) 26 rfl w.heap.size 63 i0 (.agg #[.int .i64 0, .int .i64 0]) 2 16 Try.underlying26 hi hz0 hz1 hz2 rfl (by omega) _ (out.length + 1) (lcells (out ++ [(x, n)])) (by rfl) hO4 (fun _ => True) _ 1 1 [.int .i64 a, .int .i64 m] (by rfl) (by rfl) hR4 (two_ints _ _) (by unfold maxLen; omega) (by omega) (by simp; omega) ?_; intro v5 w5 hown5 hg5 hat5; clear hat5; have hb5 : Below w.heap.size w w5 := below_grown (hb4.alloc hb4.size _) (by simp; omega) hg5 (fun j hj => (hO4.lt j hj).1)))
              go_roundw
              case rel => exact ⟨k + 1, by omega, by go_num, by rw [HE.out]; exact ⟨by show World.ownsRow _ _ _ _ _ (out ++ [(x, n)] ++ [(a, m)]).length (lcells (out ++ [(x, n)] ++ [(a, m)])); rw [lcells_snoc (out ++ [(x, n)]) (a, m), List.length_append, List.length_append]; exact hown5, rfl, by simp; omega, hb5⟩⟩
              case measure => simp [intOf]; omega
          · by_cases hax : a = x
            · have hab : (a != x) = false := by simpa using hax
              have HE := Lib.hid (show (s.take (k + 1)).foldl (stepS x n) ([], false) = (out, true) by rw [HST.out]; simp [stepS, hax, hn])
              go_wp2_with fail
              go_roundw
              case rel => exact ⟨k + 1, by omega, by go_num, by rw [HE.out]; exact ⟨hown, rfl, by simp; omega, HBW.out⟩⟩
              case measure => simp [intOf]; omega
            · have hab : (a != x) = true := by simpa using hax
              have HE := Lib.hid (show (s.take (k + 1)).foldl (stepS x n) ([], false) = (out ++ [(a, m)], true) by rw [HST.out]; simp [stepS, hax, hn, hxa])
              go_wp2_with (refine wpList_append_rd _ (by rfl) (.tmp 50) (.tmp 58) 26 rfl w.heap.size 63 i0 (.agg #[.int .i64 0, .int .i64 0]) 2 16 Try.underlying26 hi hz0 hz1 hz2 rfl (by omega) _ out.length (lcells out) (by rfl) hO2 (fun _ => True) _ 1 1 [.int .i64 a, .int .i64 m] (by rfl) (by rfl) hR2 (two_ints _ _) (by unfold maxLen; omega) (by omega) (by simp; omega) ?_; intro v4 w4 hown4 hg4 hat4; clear hat4; have hb4 : Below w.heap.size w w4 := below_grown (HBW.out.alloc HBW.out.size _) (by simp; omega) hg4 (fun j hj => (hO2.lt j hj).1))
              go_roundw
              case rel => exact ⟨k + 1, by omega, by go_num, by rw [HE.out]; exact ⟨by show World.ownsRow _ _ _ _ _ (out ++ [(a, m)]).length (lcells (out ++ [(a, m)])); rw [lcells_snoc, List.length_append]; exact hown4, rfl, by simp; omega, hb4⟩⟩
              case measure => simp [intOf]; omega
        | true =>
          by_cases hax : a = x
          · have hab : (a != x) = false := by simpa using hax
            have HE := Lib.hid (show (s.take (k + 1)).foldl (stepS x n) ([], false) = (out, true) by rw [HST.out]; simp [stepS, hax])
            go_wp2_with fail
            go_roundw
            case rel => exact ⟨k + 1, by omega, by go_num, by rw [HE.out]; exact ⟨hown, rfl, by simp; omega, HBW.out⟩⟩
            case measure => simp [intOf]; omega
          · have hab : (a != x) = true := by simpa using hax
            have HE := Lib.hid (show (s.take (k + 1)).foldl (stepS x n) ([], false) = (out ++ [(a, m)], true) by rw [HST.out]; simp [stepS, hax])
            go_wp2_with (refine wpList_append_rd _ (by rfl) (.tmp 50) (.tmp 58) 26 rfl w.heap.size 63 i0 (.agg #[.int .i64 0, .int .i64 0]) 2 16 Try.underlying26 hi hz0 hz1 hz2 rfl (by omega) _ out.length (lcells out) (by rfl) hO2 (fun _ => True) _ 1 1 [.int .i64 a, .int .i64 m] (by rfl) (by rfl) hR2 (two_ints _ _) (by unfold maxLen; omega) (by omega) (by simp; omega) ?_; intro v4 w4 hown4 hg4 hat4; clear hat4; have hb4 : Below w.heap.size w w4 := below_grown (HBW.out.alloc HBW.out.size _) (by simp; omega) hg4 (fun j hj => (hO2.lt j hj).1))
            go_roundw
            case rel => exact ⟨k + 1, by omega, by go_num, by rw [HE.out]; exact ⟨by show World.ownsRow _ _ _ _ _ (out ++ [(a, m)]).length (lcells (out ++ [(a, m)])); rw [lcells_snoc, List.length_append]; exact hown4, rfl, by simp; omega, hb4⟩⟩
            case measure => simp [intOf]; omega
      · have hax : ¬ a = x := by omega
        have hab : (a != x) = true := by simpa using hax
        have HE := Lib.hid (show (s.take (k + 1)).foldl (stepS x n) ([], false) = (out ++ [(a, m)], dn) by rw [HST.out]; simp [stepS, hax, hxa])
        go_wp2_with (refine wpList_append_rd _ (by rfl) (.tmp 50) (.tmp 58) 26 rfl w.heap.size 63 i0 (.agg #[.int .i64 0, .int .i64 0]) 2 16 Try.underlying26 hi hz0 hz1 hz2 rfl (by omega) _ out.length (lcells out) (by rfl) hO2 (fun _ => True) _ 1 1 [.int .i64 a, .int .i64 m] (by rfl) (by rfl) hR2 (two_ints _ _) (by unfold maxLen; omega) (by omega) (by simp; omega) ?_; intro v4 w4 hown4 hg4 hat4; clear hat4; have hb4 : Below w.heap.size w w4 := below_grown (HBW.out.alloc HBW.out.size _) (by simp; omega) hg4 (fun j hj => (hO2.lt j hj).1))
        go_roundw
        case rel => exact ⟨k + 1, by omega, by go_num, by rw [HE.out]; exact ⟨by show World.ownsRow _ _ _ _ _ (out ++ [(a, m)]).length (lcells (out ++ [(a, m)])); rw [lcells_snoc, List.length_append]; exact hown4, rfl, by simp; omega, hb4⟩⟩
        case measure => simp [intOf]; omega
    · obtain rfl : k = s.length := by omega
      obtain ⟨hown, hdone, hlen, hbel⟩ := hW
      rw [List.take_length] at hown hdone hlen
      have HFI := Lib.hid HFS.out
      generalize s.foldl (stepS x n) ([], false) = t at *
      obtain ⟨out, dn⟩ := t
      simp only at *
      subst hdone
      obtain ⟨A6, c6, rfl, hr6⟩ := own_readsB hown
      clear hr6
      have HBW := Lib.hid hbel
      have hszw := hbel.size
      have HEND := Lib.hid fun (w5 : World) (v5 : Value) (t5 : LS) (h5 : t5 = setZ s x n) (hown5 : w5.ownsRow w.heap.size 63 2 v5 t5.length (lcells t5)) (hb5 : Below w.heap.size w w5) =>
        (show RefAt (w5.setCell ⟨h, 0, none⟩ v5) (fun k => w.heap.size ≤ k) h ⟨setZ s x n, o⟩ ∧ Only (fun k => k = h) w (w5.setCell ⟨h, 0, none⟩ v5) from by
          subst h5
          obtain ⟨A5, c5, rfl, hr5⟩ := own_readsB hown5
          have hB5 := (HB.out.below hb5 hlt).set_ 0 (.slice A5 (setZ s x n).length c5)
          have ho : Only (fun k => k = h) w5 (w5.setCell ⟨h, 0, none⟩ (.slice A5 (setZ s x n).length c5)) := (Only.refl (fun k => k = h) w5).setCell (p := ⟨h, 0, none⟩) (fun _ => rfl) _
          exact ⟨⟨⟨A5, c5, hB5, hr5.only ho (fun j _ hj e => by omega)⟩, by omega⟩, (Only.of_below (S := fun k => k = h) hb5).setCell (p := ⟨h, 0, none⟩) (fun _ => rfl) _⟩)
      have hO1 : (wr.alloc (.cells #[.int .i64 x, .int .i64 n] 63)).ownsRow w.heap.size 63 2 (.slice A6 out.length c6) out.length (lcells out) := own_alive hown (below_a1 _ _)
      have hR1 : Reads (wr.alloc (.cells #[.int .i64 x, .int .i64 n] 63)) (fun _ => True) (some ⟨wr.heap.size, 0, none⟩) [.int .i64 x, .int .i64 n] := (reads_of_blk (Blk.new wr 63 #[.int .i64 x, .int .i64 n])).mono (fun _ _ _ => trivial)
      cases dn with
      | true =>
        have HE := Lib.hid (show out = setZ s x n by have := HFI.out; simpa [finS] using this)
        go_wp2_with fail
        refine bodyPost_end (results_none rfl _ _ _) rfl ?_
        exact ⟨rfl, HEND.out wr _ out HE.out hown HBW.out⟩
      | false =>
        by_cases hn : 0 < n
        · have HE := Lib.hid (show out ++ [(x, n)] = setZ s x n by have := HFI.out; simpa [finS, hn] using this)
          go_wp2_with (refine wpList_append_rd _ (by rfl) (.tmp 66) (.tmp 70) 26 rfl w.heap.size 63 i0 (.agg #[.int .i64 0, .int .i64 0]) 2 16 Try.underlying26 hi hz0 hz1 hz2 rfl (by omega) _ out.length (lcells out) (by rfl) hO1 (fun _ => True) _ 1 1 [.int .i64 x, .int .i64 n] (by rfl) (by rfl) hR1 (two_ints _ _) (by unfold maxLen; omega) (by omega) (by simp; omega) ?_; intro v4 w4 hown4 hg4 hat4; clear hat4; have hb4 : Below w.heap.size w w4 := below_grown (HBW.out.alloc HBW.out.size _) (by simp; omega) hg4 (fun j hj => (hO1.lt j hj).1); have hq4 := (hb4.cell (p := ⟨h, 0, none⟩) hlt).trans hc0; have hq4f : w4.frozen? ⟨h, 0, none⟩ = false := (HB.out.below hb4 hlt).frozen 0; obtain ⟨A4, c4, rfl, hr4⟩ := own_readsB hown4; clear hr4)
          refine bodyPost_end (results_none rfl _ _ _) rfl ?_
          exact ⟨rfl, HEND.out w4 _ (out ++ [(x, n)]) HE.out (by rw [lcells_snoc, List.length_append]; exact hown4) hb4⟩
        · have HE := Lib.hid (show out = setZ s x n by have := HFI.out; simpa [finS, hn] using this)
          go_wp2_with fail
          refine bodyPost_end (results_none rfl _ _ _) rfl ?_
          exact ⟨rfl, HEND.out wr _ out HE.out hown HBW.out⟩
end Go.Proofs.Ytneablcgcdmgpaa
