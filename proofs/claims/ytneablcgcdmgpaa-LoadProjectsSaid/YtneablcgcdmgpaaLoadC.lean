/-
  Loads: all of them, in the order of interfaces. Under: they stand in memory.
-/
import Derived.Test.YtneablcgcdmgpaaLoadS
namespace Go.Proofs.Ytneablcgcdmgpaa
open Go.ChangeShapes Go.WideShapes Go.ChangeAt Go.RowKit Go.Maps

theorem keys_perm {w : World} {b m : Nat} {D : DataW Unit} {s : LS} (h : w.ownsMap Try.prog 3 (plainElem Try.prog 3) b m D) (hD : MapIs D s) (hr : Ris s) : (keysL s).Perm (intKeys D) := by
  refine CollectedI.perm (left := fun _ => false) ?_ h law3 Try.underlying3 (fun _ => rfl)
  exact ⟨nodup_keys hr, fun x => by simp [hD.has x]⟩
theorem keys_sorted {ss : List Int} {D : DataW Unit} {s : LS} (h : ss.Perm (intKeys D)) (hk : (keysL s).Perm (intKeys D)) (hr : Ris s) : ss.mergeSort (fun x y => decide (x ≤ y)) = keysL s := by
  have h1 := mergeSort_of_perm_i (h.trans hk.symm)
  show ss.mergeSort leI = _
  rw [h1]
  refine List.mergeSort_of_pairwise ?_
  exact (rising_keys hr).imp fun h => by simpa [leI] using h
/-- what a row of loads is in memory -/
def lcells (s : LS) : List Value := s.flatMap fun p => [.int .i64 p.1, .int .i64 p.2]
theorem lcells_len (s : LS) : (lcells s).length = s.length * 2 := by
  unfold lcells
  induction s with
  | nil => rfl
  | cons p s ih => rw [List.flatMap_cons, List.length_append, ih]; simp; omega
theorem lcells_snoc (s : LS) (p : Int × Int) : lcells (s ++ [p]) = lcells s ++ [.int .i64 p.1, .int .i64 p.2] := by simp [lcells]
theorem lcells_take {s : LS} {k : Nat} (hk : k < s.length) : lcells (s.take (k + 1)) = lcells (s.take k) ++ [.int .i64 s[k].1, .int .i64 s[k].2] := by
  rw [List.take_succ_eq_append_getElem hk, lcells_snoc]
theorem infoLoad : (Try.prog.info? 63).map (fun i => (i.zero, i.size, i.bytes)) = some (some (.agg #[.int .i64 0, .int .i64 0]), 2, 16) := by kernel_rfl
theorem own_alive {W w' : World} {B : Nat} {e : TypeId} {size n : Nat} {v : Value} {xs : List Value} (h : W.ownsRow B e size v n xs) (hb : Below W.heap.size W w') : w'.ownsRow B e size v n xs := own_below h hb (Nat.le_refl _)
theorem reads_of_blk {w : World} {g : Nat} {t : TypeId} {cs : Array Value} (h : Blk w g t cs) : Reads w (· = g) (some ⟨g, 0, none⟩) cs.toList :=
  .inr ⟨g, 0, rfl, rfl, h.lt, fun j u hj => by
    have := h.cell j
    rw [Nat.zero_add, this]
    simpa using hj⟩
theorem two_ints (a b : Int) : ∀ u ∈ [Value.int .i64 a, .int .i64 b], u.oneCell' = true := by
  intro u hu
  simp at hu
  rcases hu with rfl | rfl <;> rfl
theorem below_grown {B : Nat} {w0 w w' : World} {row : Option Nat} (h : Below B w0 w) (hB : B ≤ w.heap.size) (hg : w.grownBy w' row) (hr : ∀ k, row = some k → B ≤ k) : Below B w0 w' := h.grown hg hB hr
theorem ownsMap_below {w w' : World} {P : Program} {k : TypeId} {R : Value → Option (DataW Unit × List MemPlace)} {b n : Nat} {D : DataW Unit} (h : w.ownsMap P k R b n D) {B : Nat} (hb : Below B w w') (hlt : b < B) : w'.ownsMap P k R b n D := by
  obtain ⟨es, clock, he, F, hs, hD⟩ := h
  exact ⟨es, clock, (hb.block b hlt).trans he, F, hs, hD⟩

set_option maxRecDepth 10000 in
set_option maxHeartbeats 4000000 in
theorem all_any {w : World} {g b m : Nat} {x : LD} (h : LoadsAt w g b m x) (hx : x.ok) (hm : m ≤ 1000000) :
    Calls Try.prog 15 #[.pointer (some ⟨g, 0, none⟩)] w fun e w' => ∃ v, e = .returned v ∧ w'.ownsRow w.heap.size 63 2 v x.s.length (lcells x.s) ∧ Below w.heap.size w w' := by
  obtain ⟨D, h1, h2⟩ := h.map
  have hsz : Maps.size D ≤ m := h1.size_le
  have hlen := h2.len
  have hbl := h1.lt
  have hgl := h.blk.lt
  have hc0 := h.blk.cell 0
  simp at hc0
  have HM := Lib.hid (made_any h)
  have HS := Lib.hid (sorted_call h1 (by unfold maxLen; omega) (by omega))
  have HKP := Lib.hid (keys_perm h1 h2 hx.ris)
  have HV := Lib.hid h2.val
  have HOW := Lib.hid h1
  have HR := Lib.hid hx.ris
  have HXW := Lib.hid fun W' (hb : Below w.heap.size w W') => (⟨ownsMap_below h1 hb hbl, (hb.cell (p := ⟨g, 0, none⟩) hgl).trans hc0⟩ : W'.ownsMap Try.prog 3 (plainElem Try.prog 3) b m D ∧ W'.cell? ⟨g, 0, none⟩ = some (.map (some b)))
  obtain ⟨s, o⟩ := x
  simp only at *
  clear h h1 h2 hx
  obtain ⟨i0, hi, hz0, hz1, hz2⟩ := info_parts infoLoad
  go_enter Try.func15, Try.ntmps15
  go_wp2_with (first | (go_at_call 33; refine (HM.out).mono ?_; rintro e w' ⟨rfl, rfl⟩) | (go_at_call 35; refine (keys_call _ _).mono ?_; rintro e w' ⟨rfl, rfl⟩))
  refine (HS.out).mono ?_
  rintro e W1 ⟨v, ss, rfl, hS, hrow, hb1⟩
  have hsl : ss.length = s.length := by
    have := (hS.trans HKP.out.symm).length_eq
    simpa [keysL] using this
  rw [keys_sorted hS HKP.out HR.out] at hrow
  obtain ⟨A1, c1, rfl, _, _, _, hrd⟩ := own_reads hrow
  have HB1 := Lib.hid (show Below w.heap.size w W1 from (below_a1 w _).trans (hb1.mono (Nat.le_succ _)))
  have HRD := Lib.hid (hrd.mono (G := fun _ => True) (fun _ _ _ => trivial))
  rw [hsl]
  clear hrow hrd hb1 hS
  go_wp2_with fail
  go_loopw [3, 5, 16] (fun ov _ i wr => ∃ k : Nat, k ≤ s.length ∧ i = .int .i64 k ∧ wr.ownsRow W1.heap.size 63 2 ov k (lcells (s.take k)) ∧ Below W1.heap.size W1 wr) (fun _ _ i _ => s.length - (intOf i).toNat)
  case atStart => exact ⟨0, Nat.zero_le _, rfl, own_nil _ _ _ _, Below.refl _ _⟩
  case round =>
    obtain ⟨k, hk, rfl, hown, hb⟩ := hrel
    by_cases hkl : k < s.length
    · obtain ⟨bk, off, rfl, _, hbw, hck⟩ := HRD.out.at_ (k := k) (by simpa [keysL] using hkl)
      have hck := (hb.cell (p := ⟨bk, off + k, none⟩) hbw).trans hck
      simp only [keysL, List.getElem_map] at hck
      have HBW := Lib.hid (HB1.out.trans (hb.mono HB1.out.size))
      obtain ⟨hm1, hq0⟩ := HXW.out _ HBW.out
      have HVK := Lib.hid (HV.out s[k].1)
      rw [getZ_at HR.out hkl] at HVK
      have HT := Lib.hid (lcells_take hkl)
      have hwf : (Lit.int .i64 s[k].1).wf = true := by
        have hmem : s[k].1 ∈ intKeys D := HKP.out.mem_iff.1 (List.mem_map.2 ⟨_, List.getElem_mem hkl, rfl⟩)
        exact intKeys_wf HOW.out Try.underlying3 _ hmem
      generalize s[k] = p at *
      obtain ⟨ky, vl⟩ := p
      simp only at *
      have hO : (wr.alloc (.cells #[.int .i64 ky, .int .i64 vl] 63)).ownsRow W1.heap.size 63 2 u3 k (lcells (s.take k)) := own_alive hown (below_a1 _ _)
      have hRD : Reads (wr.alloc (.cells #[.int .i64 ky, .int .i64 vl] 63)) (fun _ => True) (some ⟨wr.heap.size, 0, none⟩) [.int .i64 ky, .int .i64 vl] := (reads_of_blk (Blk.new wr 63 #[.int .i64 ky, .int .i64 vl])).mono (fun _ _ _ => trivial)
      go_wp2_with (first | (at_lookup; refine wpList_lookup_own_int _ rfl _ _ 65 rfl 3 3 .i64 law3 Try.underlying65 Try.underlying3 (zero3 _) b m D rfl hm1 _ _ rfl (keyOf_int_mk Try.underlying3 hwf) ?_; intro c hat hwc; obtain rfl : c = vl := by (rw [HVK.out] at hat; injection hat with hat; injection hat with _ hat; exact hat.symm)) | (refine wpList_append_rd _ (by rfl) (.tmp 20) (.tmp 29) 26 rfl W1.heap.size 63 i0 (.agg #[.int .i64 0, .int .i64 0]) 2 16 Try.underlying26 hi hz0 hz1 hz2 rfl (by omega) _ k (lcells (s.take k)) (by rfl) hO (fun _ => True) _ 1 1 [.int .i64 ky, .int .i64 c] (by rfl) (by rfl) hRD (two_ints _ _) (by unfold maxLen; omega) (by omega) (by have := hb.size; simp; omega) ?_; intro v4 w4 hown4 hg4 hat4))
      have hb4 : Below W1.heap.size W1 w4 := below_grown (hb.alloc hb.size _) (by have := hb.size; simp; omega) hg4 (fun j hj => (hO.lt j hj).1)
      rw [← HT.out] at hown4
      clear hg4 hat4 hO hRD hm1 hq0
      go_roundw
      case rel => exact ⟨k + 1, by omega, by go_num, hown4, hb4⟩
      case measure => simp [intOf]; omega
    · obtain rfl : k = s.length := by omega
      rw [List.take_length] at hown
      have HF := Lib.hid (own_mono hown HB1.out.size)
      have HB := Lib.hid (HB1.out.trans (hb.mono HB1.out.size))
      clear hown
      go_wp2_with fail
      go_ret
      exact ⟨_, rfl, HF.out, HB.out⟩
end Go.Proofs.Ytneablcgcdmgpaa
