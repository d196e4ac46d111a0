/-
  What is monitored: the codec writes. No condition but that bytes read as data.
-/
import Derived.Test.YtbmbpcibihddaaaDoorBmpA
namespace Go.Proofs.YtbmbpcibihddaaaDoor
open Go.ChangeShapes Go.WideShapes Go.ChangeAt Go.RowKit

theorem setCell_same {w : World} {g i : Nat} {t : TypeId} {cs : Array Value} {u : Value} (hb : Blk w g t cs) (hi : cs[i]? = some u) : w.setCell ⟨g, i, none⟩ u = w := by
  have h : w.heap.modify g (fun | .cells c elem frozen => .cells (if (Addr.mk g i none).spot.isSome then c else c.setIfInBounds i u) elem frozen | o => o) = w.heap := by
    apply Array.ext_getElem?
    intro k
    rw [Array.getElem?_modify]
    by_cases e : g = k
    · subst e
      unfold Blk at hb
      rw [if_pos rfl, hb]
      have : cs.setIfInBounds i u = cs := by
        apply Array.ext_getElem?
        intro j
        rw [Array.getElem?_setIfInBounds]
        by_cases e : i = j
        · subst e
          rw [if_pos rfl, hi]
          split <;> rename_i h
          · rfl
          · rw [Array.getElem?_eq_none (by omega)] at hi; cases hi
        · rw [if_neg e]
      simp [this]
    · rw [if_neg e]
  have := congrArg (fun h => ({ w with heap := h } : World)) h
  exact this
/-- a codec that writes -/
structure CW (W : World) (B cb : Nat) (v : Value) (l : List UInt8) : Prop where
  blk : Blk W cb 82 #[v, .pointer none]
  own : W.ownsRow B 5 1 v l.length (l.map vb)
structure CWPost (W W' : World) (B cb : Nat) (v : Value) (l : List UInt8) : Prop where
  ex : ∃ v', CW W' B cb v' l ∧ (v'.ownBlock = v.ownBlock ∨ v'.ownBlock = none ∨ ∃ k, v'.ownBlock = some k ∧ W.heap.size ≤ k)
  only : Only (fun k => k = cb ∨ v.ownBlock = some k) W W'
theorem own_apart {W : World} {B n g : Nat} {v : Value} {xs : List Value} {t : TypeId} {cs : Array Value} (h : W.ownsRow B 5 1 v n xs) (hb : Blk W g t cs) (ht : t ≠ 5) : v.ownBlock ≠ some g := fun e => by
  rcases h.2 with ⟨rfl, -⟩ | ⟨b, cap, cur, rfl, -, hh, -⟩
  · cases e
  · have hg : b = g := by simpa [Value.ownBlock] using e
    subst hg
    unfold Blk at hb
    rw [hb] at hh
    injection hh with hh
    injection hh with h1 h2
    exact ht h2
section
variable {W W' : World} {B cb : Nat} {v : Value} {l d : List UInt8}
theorem CW.below (h : CW W B cb v l) (hb : Below W.heap.size W W') : CW W' B cb v l :=
  ⟨h.blk.below hb h.blk.lt, own_only h.own (S := fun _ => False) (Only.of_below hb) (fun _ _ h => h)⟩
theorem CW.only {S : Nat → Prop} (h : CW W B cb v l) (ho : Only S W W') (h1 : ¬ S cb) (h2 : ∀ k, v.ownBlock = some k → ¬ S k) : CW W' B cb v l :=
  ⟨h.blk.only ho h1, own_only h.own ho h2⟩
theorem CW.drew (h : CW W B cb v l) : CW W.drew B cb v l := ⟨h.blk, h.own⟩
theorem CWPost.of_drew (h : CWPost W.drew W' B cb v l) : CWPost W W' B cb v l := ⟨h.ex, h.only.of_drew⟩
theorem CWPost.of_below {w1 : World} (hb : Below W.heap.size W w1) (h : CWPost w1 W' B cb v l) : CWPost W W' B cb v l := by
  obtain ⟨v', h1, h2⟩ := h.ex
  refine ⟨⟨v', h1, ?_⟩, (Only.of_below hb).trans h.only (fun _ _ h => h)⟩
  rcases h2 with e | e | ⟨k, e, hk⟩
  · exact .inl e
  · exact .inr (.inl e)
  · exact .inr (.inr ⟨k, e, Nat.le_trans hb.size hk⟩)
theorem CWPost.size (h : CWPost W W' B cb v l) : W.heap.size ≤ W'.heap.size := h.only.size
/-- a block of the caller's between, that the codec does not hold -/
theorem CWPost.keep {g : Nat} {t : TypeId} {cs : Array Value} (h : CWPost W W' B cb v l) (hb : Blk W g t cs) (h1 : g ≠ cb) (h2 : v.ownBlock ≠ some g) : Blk W' g t cs :=
  hb.only h.only (fun e => e.elim h1 h2)
theorem CW.apart (h : CW W B cb v l) : v.ownBlock ≠ some cb := own_apart h.own h.blk (by decide)
/-- appending -/
theorem CW.grown {v4 : Value} {w4 : World} (h : CW W B cb v l) (ho : w4.ownsRow B 5 1 v4 (l.length + d.length) (l.map vb ++ d.map vb)) (hg : W.grownBy w4 v.ownBlock) (hl : v4.ownBlock = v.ownBlock ∨ v4.ownBlock = some W.heap.size) :
    CWPost W (w4.setCell ⟨cb, 0, none⟩ v4) B cb v (l ++ d) := by
  have hb : Blk w4 cb 82 #[v, .pointer none] := h.blk.grown hg (fun e => h.apart e.symm)
  have hn : v4.ownBlock ≠ some cb := own_apart ho hb (by decide)
  have ho4 : Only (· = cb) w4 (w4.setCell ⟨cb, 0, none⟩ v4) := (Only.refl (· = cb) w4).setCell (p := ⟨cb, 0, none⟩) (fun _ => rfl) _
  refine ⟨⟨v4, ⟨?_, ?_⟩, ?_⟩, ?_⟩
  · have := hb.set_ 0 v4
    simpa using this
  · have := own_only ho ho4 (fun k hk e => hn (e ▸ hk))
    rw [List.map_append, List.length_append]
    exact this
  · rcases hl with e | e
    · exact .inl e
    · exact .inr (.inr ⟨_, e, Nat.le_refl _⟩)
  · exact ((Only.refl _ W).grown hg (fun k hk _ => .inr hk)).trans ho4 (fun i _ hi => .inl hi)
end

section
variable {W : World} {B cb : Nat} {v : Value} {l : List UInt8}
set_option maxRecDepth 10000 in
set_option maxHeartbeats 4000000 in
theorem cbytes_w (hC : CW W B cb v l) (hB : B ≤ W.heap.size) (g i : Nat) (A : Option Addr) (c : Nat) (d : List UInt8) (F : Nat → Prop) (n : Int) (hp : W.cell? ⟨g, i, none⟩ = some (.slice A d.length c)) (hr : Reads W F A (d.map vb)) (hl : l.length + d.length ≤ 100000000) :
    Calls Tryd.prog 81 #[.pointer (some ⟨cb, 0, none⟩), .pointer (some ⟨g, i, none⟩), .int .i64 n] W fun e w' => e = .returned (.tuple #[]) ∧ CWPost W w' B cb v (l ++ d) := by
  obtain ⟨i0, hi, hz0, hz1, hz2⟩ := info_parts infoU8
  have hc0 := hC.blk.cell 0
  have hc1 := hC.blk.cell 1
  have hf0 := hC.blk.frozen 0
  simp at hc0 hc1
  have HC := Lib.hid hC
  have HKK := Lib.hid fun (w4 : World) (hg : W.drew.grownBy w4 v.ownBlock) => (show w4.cell? ⟨cb, 0, none⟩ = some v ∧ w4.frozen? ⟨cb, 0, none⟩ = false from by
    have hb := hC.blk.drew.grown hg (fun e => hC.apart e.symm)
    exact ⟨by rw [hb.cell 0]; rfl, hb.frozen 0⟩)
  have hone : v.oneCell' = true := by
    rcases hC.own.2 with ⟨rfl, -⟩ | ⟨b, cap, cur, rfl, -⟩ <;> rfl
  clear hC
  go_enter Tryd.func81, Tryd.ntmps81
  go_wp2_with fail
  go_region_law ((refine step_append_rd _ (by rfl) (.tmp 23) (.tmp 26) 25 (by rfl) B 5 i0 (.int .u8 0) 1 1 Tryd.underlying25 hi hz0 hz1 hz2 rfl (by omega) v l.length (l.map vb) (by rfl) HC.out.drew.own F A d.length c (d.map vb) (by rfl) (by simp) hr (vb_one _) (by unfold maxLen; omega) (by omega) hB ?_; intro v4 w4 hown4 hg4 hloc4; obtain ⟨A4, c4, hv4, _, _, _, _⟩ := own_reads hown4; subst hv4; have hq0 := (HKK.out w4 hg4).1; have hq1 := (HKK.out w4 hg4).2))
  all_goals
    go_wp2_with fail
    first | refine bodyPost_ret (results_none rfl _ _ _) rfl ?_ | refine bodyPost_end (results_none rfl _ _ _) rfl ?_
    exact ⟨rfl, (HC.out.drew.grown hown4 hg4 hloc4).of_drew⟩
set_option maxRecDepth 10000 in
set_option maxHeartbeats 4000000 in
theorem cnum4_w (hC : CW W B cb v l) (hB : B ≤ W.heap.size) (g i n : Nat) (hn : n < 4294967296) (hp : W.cell? ⟨g, i, none⟩ = some (.int .i64 n)) (hl : l.length ≤ 90000000) :
    Calls Tryd.prog 44 #[.pointer (some ⟨cb, 0, none⟩), .pointer (some ⟨g, i, none⟩), .int .i64 4] W fun e w' => e = .returned (.tuple #[]) ∧ CWPost W w' B cb v (l ++ be 4 n) := by
  obtain ⟨i0, hi, hz0, hz1, hz2⟩ := info_parts infoU8
  have hc0 := hC.blk.cell 0
  have hc1 := hC.blk.cell 1
  simp at hc0 hc1
  have HC := Lib.hid hC
  clear hC
  go_enter Tryd.func44, Tryd.ntmps44
  go_wp2_with fail
  refine (put_ok4 n _ hn).mono ?_
  rintro e w1 ⟨v1, rfl, o1, b1⟩
  obtain ⟨A1, c1, hv1, -, -, -, rd1⟩ := own_reads o1
  subst hv1
  have HC1 := Lib.hid (HC.out.below b1)
  have hB1 : B ≤ w1.heap.size := Nat.le_trans hB b1.size
  have HBL := Lib.hid (be_length 4 n)
  have HB1 := Lib.hid b1
  clear hc0 hc1 o1 b1
  have hc0 := HC1.out.blk.cell 0
  simp at hc0
  go_wp2_with (refine wpList_append_rd _ (by rfl) (.tmp 33) (.tmp 34) 25 rfl B 5 i0 (.int .u8 0) 1 1 Tryd.underlying25 hi hz0 hz1 hz2 rfl (by omega) v l.length (l.map vb) (by rfl) HC1.out.own _ A1 4 c1 ((be 4 n).map vb) (by rfl) (by simp [HBL.out]) rd1 (vb_one _) (by unfold maxLen; omega) (by omega) hB1 ?_)
  intro v4 w4 hown4 hg4 hloc4
  have hb4 := HC1.out.blk.grown hg4 (fun e => HC1.out.apart e.symm)
  have hq0 := hb4.cell 0
  have hq1 := hb4.frozen 0
  simp at hq0
  obtain ⟨A4, c4, hv4, -, -, -, -⟩ := own_reads hown4
  subst hv4
  have HP := Lib.hid (CWPost.of_below HB1.out (HC1.out.grown (d := be 4 n) (by rw [HBL.out]; exact hown4) hg4 hloc4))
  clear hown4 hg4 hloc4 rd1 hb4
  go_wp2_with fail
  first | refine bodyPost_ret (results_none rfl _ _ _) rfl ?_ | refine bodyPost_end (results_none rfl _ _ _) rfl ?_
  exact ⟨rfl, HP.out⟩
set_option maxRecDepth 10000 in
set_option maxHeartbeats 4000000 in
theorem cnum1_w (hC : CW W B cb v l) (hB : B ≤ W.heap.size) (g i n : Nat) (hn : n < 256) (hp : W.cell? ⟨g, i, none⟩ = some (.int .i64 n)) (hl : l.length ≤ 90000000) :
    Calls Tryd.prog 44 #[.pointer (some ⟨cb, 0, none⟩), .pointer (some ⟨g, i, none⟩), .int .i64 1] W fun e w' => e = .returned (.tuple #[]) ∧ CWPost W w' B cb v (l ++ be 1 n) := by
  obtain ⟨i0, hi, hz0, hz1, hz2⟩ := info_parts infoU8
  have hc0 := hC.blk.cell 0
  have hc1 := hC.blk.cell 1
  simp at hc0 hc1
  have HC := Lib.hid hC
  clear hC
  go_enter Tryd.func44, Tryd.ntmps44
  go_wp2_with fail
  refine (put_ok1 n _ hn).mono ?_
  rintro e w1 ⟨v1, rfl, o1, b1⟩
  obtain ⟨A1, c1, hv1, -, -, -, rd1⟩ := own_reads o1
  subst hv1
  have HC1 := Lib.hid (HC.out.below b1)
  have hB1 : B ≤ w1.heap.size := Nat.le_trans hB b1.size
  have HBL := Lib.hid (be_length 1 n)
  have HB1 := Lib.hid b1
  clear hc0 hc1 o1 b1
  have hc0 := HC1.out.blk.cell 0
  simp at hc0
  go_wp2_with (refine wpList_append_rd _ (by rfl) (.tmp 33) (.tmp 34) 25 rfl B 5 i0 (.int .u8 0) 1 1 Tryd.underlying25 hi hz0 hz1 hz2 rfl (by omega) v l.length (l.map vb) (by rfl) HC1.out.own _ A1 1 c1 ((be 1 n).map vb) (by rfl) (by simp [HBL.out]) rd1 (vb_one _) (by unfold maxLen; omega) (by omega) hB1 ?_)
  intro v4 w4 hown4 hg4 hloc4
  have hb4 := HC1.out.blk.grown hg4 (fun e => HC1.out.apart e.symm)
  have hq0 := hb4.cell 0
  have hq1 := hb4.frozen 0
  simp at hq0
  obtain ⟨A4, c4, hv4, -, -, -, -⟩ := own_reads hown4
  subst hv4
  have HP := Lib.hid (CWPost.of_below HB1.out (HC1.out.grown (d := be 1 n) (by rw [HBL.out]; exact hown4) hg4 hloc4))
  clear hown4 hg4 hloc4 rd1 hb4
  go_wp2_with fail
  first | refine bodyPost_ret (results_none rfl _ _ _) rfl ?_ | refine bodyPost_end (results_none rfl _ _ _) rfl ?_
  exact ⟨rfl, HP.out⟩
set_option maxRecDepth 10000 in
set_option maxHeartbeats 4000000 in
theorem word_w (hC : CW W B cb v l) (hB : B ≤ W.heap.size) (g i n : Nat) (hn : n < 4294967296) (t : TypeId) (cs : Array Value) (hG : Blk W g t cs) (hi : cs[i]? = some (.int .u32 n)) (hg : g ≠ cb) (hgB : g < B) (hl : l.length ≤ 90000000) :
    Calls Tryd.prog 69 #[.pointer (some ⟨cb, 0, none⟩), .pointer (some ⟨g, i, none⟩)] W fun e w' => e = .returned (.tuple #[]) ∧ CWPost W w' B cb v (l ++ be 4 n) ∧ Blk w' g t cs := by
  have hp : W.cell? ⟨g, i, none⟩ = some (.int .u32 n) := by rw [hG.cell i, hi]
  have hn1 : ((n : Int)) % 4294967296 = (n : Int) := by omega
  have h0 := Blk.new W 3 #[.int .i64 n]
  have hb0 := below_a1 W (.cells #[.int .i64 n] 3)
  have HN := Lib.hid (cnum4_w (hC.below hb0) (Nat.le_trans hB hb0.size) W.heap.size 0 n hn (by rw [h0.cell]; rfl) hl)
  have HC := Lib.hid hC
  have HG := Lib.hid hG
  have HI := Lib.hid hi
  have HZ := Lib.hid h0
  have HZB := Lib.hid hb0
  clear hC hG hi h0 hb0
  go_enter Tryd.func69, Tryd.ntmps69
  go_wp2_with fail
  refine HN.out.mono ?_
  rintro e w1 ⟨rfl, hp1⟩
  have hgs := HG.out.lt
  have hcs := HC.out.blk.lt
  have hvg : v.ownBlock ≠ some g := fun e => by have := (HC.out.own.lt g e).1; omega
  have hvn : v.ownBlock ≠ some W.heap.size := fun e => by have := (HC.out.own.lt _ e).2; omega
  have hz1 := (hp1.keep HZ.out (by omega) hvn).cell 0
  have hg1 := hp1.keep (HG.out.alloc _) hg hvg
  have hq0 := hg1.cell i
  rw [HI.out] at hq0
  have hq1 := hg1.frozen i
  simp at hz1
  have HS := Lib.hid (setCell_same hg1 HI.out)
  have HP := Lib.hid hp1
  have HG1 := Lib.hid hg1
  clear hp1 hg1 HN hp
  go_wp2_with fail
  first | refine bodyPost_ret (results_none rfl _ _ _) rfl ?_ | refine bodyPost_end (results_none rfl _ _ _) rfl ?_
  rw [HS.out]
  exact ⟨rfl, CWPost.of_below HZB.out HP.out, HG1.out⟩
set_option maxRecDepth 10000 in
set_option maxHeartbeats 4000000 in
theorem zeros_w (hC : CW W B cb v l) (hB : B ≤ W.heap.size) (n : Nat) (hn : n ≤ 1000) (hl : l.length ≤ 90000000) :
    Calls Tryd.prog 68 #[.pointer (some ⟨cb, 0, none⟩), .int .i64 n] W fun e w' => e = .returned (.tuple #[]) ∧ CWPost W w' B cb v (l ++ List.replicate n 0) := by
  obtain ⟨i0, hi, hz0, hz1, hz2⟩ := info_parts infoU8
  have HC := Lib.hid hC
  clear hC
  go_enter Tryd.func68, Tryd.ntmps68
  go_wp2_with (refine wpList_make_w _ (by rfl) (.tmp 5) (.tmp 5) 25 rfl W.heap.size 5 i0 (.int .u8 0) 1 Tryd.underlying25 hi hz0 hz1 .i64 .i64 _ _ n (by rfl) (by rfl) rfl rfl (by rw [hz2]; omega) (by unfold maxLen; omega) (Nat.le_refl _) ?_)
  intro w1 o1 g1
  rw [toList_madeCells_one, replicate_vb] at o1
  have b1 : Below W.heap.size W w1 := below_append (Below.refl _ W) (Nat.le_refl _) (own_nil W W.heap.size 5 1) g1
  have o2 := own_below o1 (below_a1 w1 (.cells #[.slice (some ⟨W.heap.size, 0, none⟩) n n] 25)) (Nat.le_refl _)
  have b2 := b1.alloc b1.size (.cells #[.slice (some ⟨W.heap.size, 0, none⟩) n n] 25)
  obtain ⟨A2, c2, hv2, -, -, -, rd2⟩ := own_reads o2
  have HB := Lib.hid b2
  have h0 := (Blk.new w1 25 #[.slice (some ⟨W.heap.size, 0, none⟩) n n]).cell 0
  injection hv2 with e1 e2 e3
  subst e1 e3
  have hlr : (List.replicate n (0 : UInt8)).length = n := by simp
  have hcall := Lib.hid (cbytes_w (HC.out.below b2) (Nat.le_trans hB b2.size) w1.heap.size 0 (some ⟨W.heap.size, 0, none⟩) n (List.replicate n 0) _ n (by rw [hlr, h0]; rfl) rd2 (by rw [hlr]; omega))
  clear o1 g1 b1 o2 b2 rd2 h0
  go_wp2_with fail
  refine hcall.out.mono ?_
  rintro e w3 ⟨rfl, hp⟩
  go_wp2_with fail
  first | refine bodyPost_ret (results_none rfl _ _ _) rfl ?_ | refine bodyPost_end (results_none rfl _ _ _) rfl ?_
  exact ⟨rfl, CWPost.of_below HB.out hp⟩
set_option maxRecDepth 10000 in
set_option maxHeartbeats 4000000 in
theorem rest_w (hC : CW W B cb v l) (hB : B ≤ W.heap.size) (g i : Nat) (A : Option Addr) (c : Nat) (d : List UInt8) (F : Nat → Prop) (hp : W.cell? ⟨g, i, none⟩ = some (.slice A d.length c)) (hr : Reads W F A (d.map vb)) (hl : l.length + d.length ≤ 100000000) :
    Calls Tryd.prog 71 #[.pointer (some ⟨cb, 0, none⟩), .pointer (some ⟨g, i, none⟩)] W fun e w' => e = .returned (.tuple #[]) ∧ CWPost W w' B cb v (l ++ d) := by
  have hc1 := hC.blk.cell 1
  simp at hc1
  have H := Lib.hid (cbytes_w hC hB g i A c d F 0 hp hr hl)
  clear hC hp hr
  go_enter Tryd.func71, Tryd.ntmps71
  go_wp2_with fail
  refine (left_nil W).mono ?_
  rintro e w1 ⟨rfl, rfl⟩
  go_wp2_with fail
  refine H.out.mono ?_
  rintro e w2 ⟨rfl, hp⟩
  go_wp2_with fail
  first | refine bodyPost_ret (results_none rfl _ _ _) rfl ?_ | refine bodyPost_end (results_none rfl _ _ _) rfl ?_
  exact ⟨rfl, hp⟩
set_option maxRecDepth 10000 in
set_option maxHeartbeats 4000000 in
theorem one_w (hC : CW W B cb v l) (hB : B ≤ W.heap.size) (g i : Nat) (A : Option Addr) (c : Nat) (d : List UInt8) (F : Nat → Prop) (hp : W.cell? ⟨g, i, none⟩ = some (.slice A d.length c)) (hr : Reads W F A (d.map vb)) (hl : l.length + d.length ≤ 100000000) :
    Calls Tryd.prog 70 #[.pointer (some ⟨cb, 0, none⟩), .pointer (some ⟨g, i, none⟩)] W fun e w' => e = .returned (.tuple #[]) ∧ CWPost W w' B cb v (l ++ d) := by
  have hc1 := hC.blk.cell 1
  simp at hc1
  have H := Lib.hid (cbytes_w hC hB g i A c d F 0 hp hr hl)
  clear hC hp hr
  go_enter Tryd.func70, Tryd.ntmps70
  go_wp2_with fail
  refine H.out.mono ?_
  rintro e w2 ⟨rfl, hp⟩
  go_wp2_with fail
  first | refine bodyPost_ret (results_none rfl _ _ _) rfl ?_ | refine bodyPost_end (results_none rfl _ _ _) rfl ?_
  exact ⟨rfl, hp⟩
/-- a string's bytes, in a row of their own -/
theorem bytes_of_str (w : World) (l : List UInt8) : ∃ c w', (convert 9 25 (.string (str l))).run Tryd.prog w = .ok (.slice (some ⟨w.heap.size, 0, none⟩) l.length c) w' ∧ Reads w' (fun k => k = w.heap.size) (some ⟨w.heap.size, 0, none⟩) (l.map vb) ∧ Below w.heap.size w w' ∧ w.heap.size < w'.heap.size := by
  have h := run_bytes_of_string (P := Tryd.prog) w 9 25 5 (str l) Tryd.underlying9 Tryd.underlying25 Tryd.underlying5
  rw [show (str l).size = l.length from by simp [str, ByteArray.size]] at h
  refine ⟨_, _, h, ?_, ?_, by simp⟩
  · refine .inr ⟨w.heap.size, 0, rfl, rfl, by simp, fun j u hu => ?_⟩
    rw [Nat.zero_add]
    have e : w.heap.size = w.drew.heap.size := rfl
    rw [e, World.cell?_alloc_mark, ← hu]
    have hj : j < l.length := by
      rcases Nat.lt_or_ge j l.length with h | h
      · exact h
      · rw [List.getElem?_eq_none (by simpa using h)] at hu; cases hu
    have hb := bytesRow_at (str l) (grownCap w l.length 0 5) j (by simpa [str, ByteArray.size] using hj)
    rw [hb]
    simp [str, vb, hj]
  · exact ((Below.refl w.heap.size w).drew).alloc (Nat.le_refl _) _
set_option maxRecDepth 10000 in
set_option maxHeartbeats 4000000 in
theorem text_w (hC : CW W B cb v l) (hB : B ≤ W.heap.size) (g i : Nat) (d : List UInt8) (t : TypeId) (cs : Array Value) (hG : Blk W g t cs) (hi : cs[i]? = some (.string (str d))) (hg : g ≠ cb) (hgB : g < B) (hd : d.length ≤ 1000000) (hl : l.length ≤ 1000000) :
    Calls Tryd.prog 67 #[.pointer (some ⟨cb, 0, none⟩), .pointer (some ⟨g, i, none⟩)] W fun e w' => e = .returned (.tuple #[]) ∧ (∃ v', CW w' B cb v' (l ++ be 4 d.length ++ d)) ∧ Blk w' g t cs ∧ Only (fun k => k = cb ∨ B ≤ k) W w' := by
  have hp : W.cell? ⟨g, i, none⟩ = some (.string (str d)) := by rw [hG.cell i, hi]
  have hds : (str d).size = d.length := by simp [str, ByteArray.size]
  have h0 := Blk.new W 3 #[.int .i64 d.length]
  have hb0 := below_a1 W (.cells #[.int .i64 d.length] 3)
  have HN := Lib.hid (cnum4_w (hC.below hb0) (Nat.le_trans hB hb0.size) W.heap.size 0 d.length (by omega) (by rw [h0.cell]; rfl) (by omega))
  have HC := Lib.hid hC
  have HG := Lib.hid hG
  have HI := Lib.hid hi
  have HZ := Lib.hid h0
  have HZB := Lib.hid hb0
  clear hC hG hi h0 hb0
  go_enter Tryd.func67, Tryd.ntmps67
  go_wp2_with fail
  refine HN.out.mono ?_
  rintro e w1 ⟨rfl, hp1⟩
  have hgs := HG.out.lt
  have hcs := HC.out.blk.lt
  have hvg : v.ownBlock ≠ some g := fun e => by have := (HC.out.own.lt g e).1; omega
  have hvn : v.ownBlock ≠ some W.heap.size := fun e => by have := (HC.out.own.lt _ e).2; omega
  have HZ1 := Lib.hid (hp1.keep HZ.out (by omega) hvn)
  have HG1 := Lib.hid (hp1.keep (HG.out.alloc _) hg hvg)
  obtain ⟨v1, hc1, hl1⟩ := hp1.ex
  have hO1 : Only (fun k => k = cb ∨ v.ownBlock = some k) W w1 := (Only.of_below HZB.out).trans hp1.only (fun _ _ h => h)
  have hq0 := HG1.out.cell i
  rw [HI.out] at hq0
  have hs1 : W.heap.size < w1.heap.size := by have := hp1.size; simp at this; omega
  obtain ⟨cB, wB, hrun, rdB, hbB, hltB⟩ := bytes_of_str w1 d
  have hbB1 := hbB.alloc hbB.size (.cells #[.slice (some ⟨w1.heap.size, 0, none⟩) d.length cB] 25)
  have hbB2 := below_a1 wB (.cells #[.slice (some ⟨w1.heap.size, 0, none⟩) d.length cB] 25)
  have HT := Lib.hid (Blk.new wB 25 #[.slice (some ⟨w1.heap.size, 0, none⟩) d.length cB])
  have HRB := Lib.hid (rdB.alloc (.cells #[.slice (some ⟨w1.heap.size, 0, none⟩) d.length cB] 25))
  have HZ2 := Lib.hid (HZ1.out.below hbB1 HZ1.out.lt)
  have HG2 := Lib.hid (HG1.out.below hbB1 HG1.out.lt)
  have hn0 := HZ2.out.cell 0
  simp at hn0
  have HC2 := Lib.hid (hc1.below hbB1)
  have HO2 := Lib.hid (hO1.trans (Only.of_below (S := fun _ => False) hbB1) (fun _ _ h => h.elim))
  have hBs : B ≤ w1.heap.size := by omega
  have HCB := Lib.hid (cbytes_w HC2.out (Nat.le_trans hBs hbB1.size) wB.heap.size 0 (some ⟨w1.heap.size, 0, none⟩) cB d _ d.length (by rw [HT.out.cell]; rfl) HRB.out (by simp [be_length]; omega))
  have hlw := HC2.out.own
  have HV1 := Lib.hid (show (v1.ownBlock ≠ some w1.heap.size) ∧ v1.ownBlock ≠ some wB.heap.size ∧ v1.ownBlock ≠ some g from by
    refine ⟨fun e => ?_, fun e => ?_, fun e => ?_⟩
    · have := (hc1.own.lt _ e).2; omega
    · have := (hc1.own.lt _ e).2; have := hbB.size; omega
    · have := (hc1.own.lt _ e).1; omega)
  clear hp1 hc1 hl1 hO1 hbB hbB1 hbB2 rdB hlw HZ1 HG1 hvg hvn HN hp
  go_wp2_with fail
  refine HCB.out.mono ?_
  rintro e w3 ⟨rfl, hp3⟩
  have HG3 := Lib.hid (hp3.keep HG2.out hg HV1.out.2.2)
  have HT3 := Lib.hid (hp3.keep HT.out (by have := hp3.size; have := HC2.out.blk.lt; omega) HV1.out.2.1)
  have ht0 := HT3.out.cell 0
  simp at ht0
  have hcv := run_convert_rd (P := Tryd.prog) 25 9 5 cB Tryd.underlying25 Tryd.underlying5 Tryd.underlying9 (HRB.out.only hp3.only (fun k _ hk e => by
    subst hk
    rcases e with e | e
    · have := HC2.out.blk.lt; omega
    · exact HV1.out.1 e))
  have hq1 := HG3.out.frozen i
  have HS := Lib.hid (setCell_same HG3.out HI.out)
  have hq2 := HG3.out.cell i
  rw [HI.out] at hq2
  obtain ⟨v3, hc3, -⟩ := hp3.ex
  have HC3 := Lib.hid hc3
  have HO3 := Lib.hid ((HO2.out.mono (T := fun k => k = cb ∨ B ≤ k) (fun k _ h => h.imp id (fun e => (HC.out.own.lt k e).1))).trans hp3.only (fun k _ h => h.elim .inl (fun e => .inr (HC2.out.own.lt k e).1)))
  clear hp3 hc3
  go_wp2_with fail
  first | refine bodyPost_ret (results_none rfl _ _ _) rfl ?_ | refine bodyPost_end (results_none rfl _ _ _) rfl ?_
  rw [HS.out]
  exact ⟨rfl, ⟨v3, HC3.out⟩, HG3.out, HO3.out⟩
end
end Go.Proofs.YtbmbpcibihddaaaDoor
