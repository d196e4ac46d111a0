/-
  What is monitored: the codec reads. No condition but that bytes read as data.
-/
import Derived.Test.YtbmbpcibihddaaaDoorBmpC
namespace Go.Proofs.YtbmbpcibihddaaaDoor
open Go.ChangeShapes Go.WideShapes Go.ChangeAt Go.RowKit

section
variable {W : World} {F : Nat → Prop} {rb : Nat} {s : RS}
theorem nbytes_any (h : RD W F 99 rb s.bs s.bad) (n : Int) (hl : s.bs.length ≤ 1000000) :
    Calls Tryd.prog 63 #[.pointer (some ⟨rb, 0, none⟩), .int .i64 n] W fun e w' => ∃ A c, e = .returned (.slice A (rdB n s).length c) ∧ w'.ownsRow W.heap.size 5 1 (.slice A (rdB n s).length c) (rdB n s).length ((rdB n s).map vb) ∧ RD w' F 99 rb (rdS n s).bs (rdS n s).bad ∧ Only (· = rb) W w' := by
  obtain ⟨bs, bad⟩ := s
  cases hn : rdOk n bs bad with
  | false =>
    refine (bytes_no h n hn).mono ?_
    rintro e w1 ⟨rfl, hr, ho⟩
    have e1 : rdB n ⟨bs, bad⟩ = [] := by unfold rdB; rw [hn]; rfl
    have e2 : rdS n ⟨bs, bad⟩ = ⟨bs, true⟩ := by unfold rdS; rw [hn]; rfl
    rw [e1, e2]
    exact ⟨none, 0, rfl, own_nil _ _ _ _, hr, ho⟩
  | true =>
    obtain ⟨rfl, m, rfl, hm⟩ := rdOk_form hn
    refine (bytes_ok h m hm (by omega)).mono ?_
    rintro e w1 ⟨v, rfl, hown, hr, ho⟩
    have e1 : rdB (m : Int) ⟨bs, false⟩ = bs.take m := by unfold rdB; rw [if_pos hn]; rfl
    have e2 : rdS (m : Int) ⟨bs, false⟩ = ⟨bs.drop m, false⟩ := by unfold rdS; rw [if_pos hn]; rfl
    have hlt : (bs.take m).length = m := by simp; omega
    obtain ⟨A, c, hv, -⟩ := own_reads hown
    subst hv
    rw [e1, e2, hlt]
    exact ⟨A, c, rfl, hown, hr, ho⟩
theorem nnum_any (h : RD W F 99 rb s.bs s.bad) (k : Nat) (h1 : 1 ≤ k) (h4 : k ≤ 4) (hl : s.bs.length ≤ 1000000) :
    Calls Tryd.prog 35 #[.pointer (some ⟨rb, 0, none⟩), .int .i64 k] W fun e w' => e = .returned (.int .i64 (ofBe (rdB k s))) ∧ RD w' F 99 rb (rdS k s).bs (rdS k s).bad ∧ Only (· = rb) W w' := by
  obtain ⟨bs, bad⟩ := s
  cases hn : rdOk k bs bad with
  | false =>
    have e1 : rdB k ⟨bs, bad⟩ = [] := by unfold rdB; rw [hn]; rfl
    have e2 : rdS k ⟨bs, bad⟩ = ⟨bs, true⟩ := by unfold rdS; rw [hn]; rfl
    rw [e1, e2]
    exact num_no h k (by simp [numOk, hn])
  | true =>
    obtain ⟨rfl, hm⟩ := rdOk_nat hn
    have e1 : rdB (k : Int) ⟨bs, false⟩ = bs.take k := by unfold rdB; rw [if_pos hn]; rfl
    have e2 : rdS (k : Int) ⟨bs, false⟩ = ⟨bs.drop k, false⟩ := by unfold rdS; rw [if_pos hn]; rfl
    rw [e1, e2]
    exact num_ok h k h1 h4 hm (by omega)
end

/-- a codec that reads -/
structure CR (W : World) (cb rb : Nat) (F : Nat → Prop) (s : RS) : Prop where
  blk : Blk W cb 82 #[.slice none 0 0, .pointer (some ⟨rb, 0, none⟩)]
  rd : RD W F 99 rb s.bs s.bad
  nf : ¬ F cb
section
variable {W W' : World} {cb rb : Nat} {F : Nat → Prop} {s s' : RS}
theorem CR.ne (h : CR W cb rb F s) : cb ≠ rb := by
  obtain ⟨A, c, hb, -⟩ := h.rd.ex
  exact Blk.ne_ h.blk hb (by decide)
theorem CR.only {S : Nat → Prop} (h : CR W cb rb F s) (ho : Only S W W') (h1 : ¬ S cb) (h2 : ¬ S rb) (h3 : ∀ k, F k → ¬ S k) : CR W' cb rb F s :=
  ⟨h.blk.only ho h1, h.rd.only ho h2 h3, h.nf⟩
theorem CR.below (h : CR W cb rb F s) (hb : Below W.heap.size W W') : CR W' cb rb F s :=
  h.only (S := fun _ => False) (Only.of_below hb) (fun h => h) (fun h => h) (fun _ _ h => h)
theorem CR.only_rb (h : CR W cb rb F s) (ho : Only (· = rb) W W') (hr : RD W' F 99 rb s'.bs s'.bad) : CR W' cb rb F s' :=
  ⟨h.blk.only ho h.ne, hr, h.nf⟩
theorem CR.flt (h : CR W cb rb F s) {k : Nat} (hk : W.heap.size ≤ k) : ¬ F k := fun hf => by have := h.rd.lt k hf; omega
theorem rdS_len (n : Int) (s : RS) : (rdS n s).bs.length ≤ s.bs.length := by unfold rdS; split <;> simp
theorem rdB_len (n : Int) (s : RS) : (rdB n s).length ≤ s.bs.length := by unfold rdB; split <;> simp <;> omega
end

section
variable {W : World} {cb rb : Nat} {F : Nat → Prop} {s : RS}
set_option maxRecDepth 10000 in
set_option maxHeartbeats 4000000 in
theorem cbytes_r (hC : CR W cb rb F s) (g i : Nat) (t : TypeId) (cs : Array Value) (u : Value) (hG : Blk W g t cs) (hi : cs[i]? = some u) (hg : g ≠ cb) (hgr : g ≠ rb) (hF : ¬ F g) (n : Int) (hl : s.bs.length ≤ 1000000) :
    Calls Tryd.prog 81 #[.pointer (some ⟨cb, 0, none⟩), .pointer (some ⟨g, i, none⟩), .int .i64 n] W fun e w' => e = .returned (.tuple #[]) ∧ ∃ A c, Blk w' g t (cs.setIfInBounds i (.slice A (rdB n s).length c)) ∧ w'.ownsRow W.heap.size 5 1 (.slice A (rdB n s).length c) (rdB n s).length ((rdB n s).map vb) ∧ CR w' cb rb F (rdS n s) ∧ Only (fun k => k = g ∨ k = rb) W w' := by
  have hc0 := hC.blk.cell 0
  have hc1 := hC.blk.cell 1
  simp at hc0 hc1
  have HN := Lib.hid (nbytes_any hC.rd n hl)
  have HC := Lib.hid hC
  have HG := Lib.hid hG
  have HI := Lib.hid hi
  clear hC hG hi
  generalize rdB n s = z at *
  generalize rdS n s = s' at *
  go_enter Tryd.func81, Tryd.ntmps81
  go_wp2_with fail
  refine HN.out.mono ?_
  rintro e w1 ⟨A, c, rfl, hown, hrd, ho⟩
  have hg1 := HG.out.only ho hgr
  have hq0 := hg1.cell i
  rw [HI.out] at hq0
  have hq1 := hg1.frozen i
  have HC1 := Lib.hid (HC.out.only_rb ho hrd)
  have HG1 := Lib.hid (hg1.set_ i (.slice A z.length c))
  have ho2 : Only (· = g) w1 (w1.setCell ⟨g, i, none⟩ (.slice A z.length c)) := (Only.refl (· = g) w1).setCell (p := ⟨g, i, none⟩) (fun _ => rfl) _
  have HC2 := Lib.hid (HC1.out.only ho2 (fun e => hg e.symm) (fun e => hgr e.symm) (fun k hk e => hF (e ▸ hk)))
  have HO := Lib.hid ((ho.mono (T := fun k => k = g ∨ k = rb) (fun _ _ h => .inr h)).trans ho2 (fun _ _ h => .inl h))
  have HW := Lib.hid (own_only hown ho2 (fun k hk e => by have := (hown.lt k hk).1; have := HG.out.lt; omega))
  clear hg1 ho2 ho hrd hc0 hc1 HN hown
  go_wp2_with fail
  first | refine bodyPost_ret (results_none rfl _ _ _) rfl ?_ | refine bodyPost_end (results_none rfl _ _ _) rfl ?_
  exact ⟨rfl, A, c, HG1.out, HW.out, HC2.out, HO.out⟩
set_option maxRecDepth 10000 in
set_option maxHeartbeats 4000000 in
theorem cnum4_r (hC : CR W cb rb F s) (g i : Nat) (t : TypeId) (cs : Array Value) (u : Value) (hG : Blk W g t cs) (hi : cs[i]? = some u) (hg : g ≠ cb) (hgr : g ≠ rb) (hF : ¬ F g) (hl : s.bs.length ≤ 1000000) :
    Calls Tryd.prog 44 #[.pointer (some ⟨cb, 0, none⟩), .pointer (some ⟨g, i, none⟩), .int .i64 4] W fun e w' => e = .returned (.tuple #[]) ∧ Blk w' g t (cs.setIfInBounds i (.int .i64 (ofBe (rdB 4 s)))) ∧ CR w' cb rb F (rdS 4 s) ∧ Only (fun k => k = g ∨ k = rb) W w' := by
  have hc0 := hC.blk.cell 0
  have hc1 := hC.blk.cell 1
  simp at hc0 hc1
  have HN := Lib.hid (nnum_any hC.rd 4 (by omega) (by omega) hl)
  have HC := Lib.hid hC
  have HG := Lib.hid hG
  have HI := Lib.hid hi
  clear hC hG hi
  generalize ofBe (rdB ((4 : Nat) : Int) s) = z at *
  generalize rdS ((4 : Nat) : Int) s = s' at *
  go_enter Tryd.func44, Tryd.ntmps44
  go_wp2_with fail
  refine HN.out.mono ?_
  rintro e w1 ⟨rfl, hrd, ho⟩
  have hg1 := HG.out.only ho hgr
  have hq0 := hg1.cell i
  rw [HI.out] at hq0
  have hq1 := hg1.frozen i
  have HC1 := Lib.hid (HC.out.only_rb ho hrd)
  have HG1 := Lib.hid (hg1.set_ i (.int .i64 z))
  have ho2 : Only (· = g) w1 (w1.setCell ⟨g, i, none⟩ (.int .i64 z)) := (Only.refl (· = g) w1).setCell (p := ⟨g, i, none⟩) (fun _ => rfl) _
  have HC2 := Lib.hid (HC1.out.only ho2 (fun e => hg e.symm) (fun e => hgr e.symm) (fun k hk e => hF (e ▸ hk)))
  have HO := Lib.hid ((ho.mono (T := fun k => k = g ∨ k = rb) (fun _ _ h => .inr h)).trans ho2 (fun _ _ h => .inl h))
  clear hg1 ho2 ho hrd hc0 hc1 HN
  go_wp2_with fail
  first | refine bodyPost_ret (results_none rfl _ _ _) rfl ?_ | refine bodyPost_end (results_none rfl _ _ _) rfl ?_
  exact ⟨rfl, HG1.out, HC2.out, HO.out⟩
set_option maxRecDepth 10000 in
set_option maxHeartbeats 4000000 in
theorem cnum1_r (hC : CR W cb rb F s) (g i : Nat) (t : TypeId) (cs : Array Value) (u : Value) (hG : Blk W g t cs) (hi : cs[i]? = some u) (hg : g ≠ cb) (hgr : g ≠ rb) (hF : ¬ F g) (hl : s.bs.length ≤ 1000000) :
    Calls Tryd.prog 44 #[.pointer (some ⟨cb, 0, none⟩), .pointer (some ⟨g, i, none⟩), .int .i64 1] W fun e w' => e = .returned (.tuple #[]) ∧ Blk w' g t (cs.setIfInBounds i (.int .i64 (ofBe (rdB 1 s)))) ∧ CR w' cb rb F (rdS 1 s) ∧ Only (fun k => k = g ∨ k = rb) W w' := by
  have hc0 := hC.blk.cell 0
  have hc1 := hC.blk.cell 1
  simp at hc0 hc1
  have HN := Lib.hid (nnum_any hC.rd 1 (by omega) (by omega) hl)
  have HC := Lib.hid hC
  have HG := Lib.hid hG
  have HI := Lib.hid hi
  clear hC hG hi
  generalize ofBe (rdB ((1 : Nat) : Int) s) = z at *
  generalize rdS ((1 : Nat) : Int) s = s' at *
  go_enter Tryd.func44, Tryd.ntmps44
  go_wp2_with fail
  refine HN.out.mono ?_
  rintro e w1 ⟨rfl, hrd, ho⟩
  have hg1 := HG.out.only ho hgr
  have hq0 := hg1.cell i
  rw [HI.out] at hq0
  have hq1 := hg1.frozen i
  have HC1 := Lib.hid (HC.out.only_rb ho hrd)
  have HG1 := Lib.hid (hg1.set_ i (.int .i64 z))
  have ho2 : Only (· = g) w1 (w1.setCell ⟨g, i, none⟩ (.int .i64 z)) := (Only.refl (· = g) w1).setCell (p := ⟨g, i, none⟩) (fun _ => rfl) _
  have HC2 := Lib.hid (HC1.out.only ho2 (fun e => hg e.symm) (fun e => hgr e.symm) (fun k hk e => hF (e ▸ hk)))
  have HO := Lib.hid ((ho.mono (T := fun k => k = g ∨ k = rb) (fun _ _ h => .inr h)).trans ho2 (fun _ _ h => .inl h))
  clear hg1 ho2 ho hrd hc0 hc1 HN
  go_wp2_with fail
  first | refine bodyPost_ret (results_none rfl _ _ _) rfl ?_ | refine bodyPost_end (results_none rfl _ _ _) rfl ?_
  exact ⟨rfl, HG1.out, HC2.out, HO.out⟩
set_option maxRecDepth 10000 in
set_option maxHeartbeats 4000000 in
theorem word_r (hC : CR W cb rb F s) (g i : Nat) (t : TypeId) (cs : Array Value) (hG : Blk W g t cs) (hi : cs[i]? = some (.int .u32 0)) (hg : g ≠ cb) (hgr : g ≠ rb) (hF : ¬ F g) (hl : s.bs.length ≤ 1000000) :
    Calls Tryd.prog 69 #[.pointer (some ⟨cb, 0, none⟩), .pointer (some ⟨g, i, none⟩)] W fun e w' => e = .returned (.tuple #[]) ∧ Blk w' g t (cs.setIfInBounds i (.int .u32 (ofBe (rdB 4 s)))) ∧ CR w' cb rb F (rdS 4 s) ∧ Only (fun k => k = g ∨ k = rb) W w' := by
  have hp : W.cell? ⟨g, i, none⟩ = some (.int .u32 0) := by rw [hG.cell i, hi]
  have h0 := Blk.new W 3 #[.int .i64 0]
  have hb0 := below_a1 W (.cells #[.int .i64 0] 3)
  have hgl := hG.lt
  have hcl := hC.blk.lt
  have hrl := hC.rd.blt
  have HN := Lib.hid (cnum4_r (hC.below hb0) W.heap.size 0 _ _ (.int .i64 0) h0 rfl (by omega) (by omega) (hC.flt (Nat.le_refl _)) hl)
  have HL := Lib.hid (ofBe_lt4 s)
  have HG := Lib.hid hG
  have HI := Lib.hid hi
  have HZB := Lib.hid hb0
  clear hC hG hi h0 hb0
  generalize ofBe (rdB 4 s) = z at *
  generalize rdS 4 s = s' at *
  simp only [List.setIfInBounds_toArray, List.set_cons_zero] at HN
  go_enter Tryd.func69, Tryd.ntmps69
  go_wp2_with fail
  refine HN.out.mono ?_
  rintro e w1 ⟨rfl, hk1, hc1, ho1⟩
  have hg1 := (HG.out.alloc _).only ho1 (fun e => e.elim (fun e => by omega) hgr)
  have hq0 := hg1.cell i
  rw [HI.out] at hq0
  have hq1 := hg1.frozen i
  have hk0 := hk1.cell 0
  simp at hk0
  have hz : (z : Int) % 4294967296 = z := by have := HL.out; omega
  have HG1 := Lib.hid (hg1.set_ i (.int .u32 z))
  have ho2 : Only (· = g) w1 (w1.setCell ⟨g, i, none⟩ (.int .u32 z)) := (Only.refl (· = g) w1).setCell (p := ⟨g, i, none⟩) (fun _ => rfl) _
  have HC2 := Lib.hid (hc1.only ho2 (fun e => hg e.symm) (fun e => hgr e.symm) (fun k hk e => hF (e ▸ hk)))
  have HO := Lib.hid (((Only.of_below (S := fun k => k = g ∨ k = rb) HZB.out).trans ho1 (fun k hk h => h.elim (fun e => by omega) .inr)).trans ho2 (fun _ _ h => .inl h))
  clear hg1 ho2 ho1 hc1 hk1 HN hp
  go_wp2_with fail
  first | refine bodyPost_ret (results_none rfl _ _ _) rfl ?_ | refine bodyPost_end (results_none rfl _ _ _) rfl ?_
  exact ⟨rfl, HG1.out, HC2.out, HO.out⟩
set_option maxRecDepth 10000 in
set_option maxHeartbeats 4000000 in
theorem zeros_r (hC : CR W cb rb F s) (n : Nat) (hn : n ≤ 1000) (hl : s.bs.length ≤ 1000000) :
    Calls Tryd.prog 68 #[.pointer (some ⟨cb, 0, none⟩), .int .i64 n] W fun e w' => e = .returned (.tuple #[]) ∧ CR w' cb rb F (rdS n s) ∧ Only (· = rb) W w' := by
  obtain ⟨i0, hi, hz0, hz1, hz2⟩ := info_parts infoU8
  have HC := Lib.hid hC
  clear hC
  go_enter Tryd.func68, Tryd.ntmps68
  go_wp2_with (refine wpList_make_w _ (by rfl) (.tmp 5) (.tmp 5) 25 rfl W.heap.size 5 i0 (.int .u8 0) 1 Tryd.underlying25 hi hz0 hz1 .i64 .i64 _ _ n (by rfl) (by rfl) rfl rfl (by rw [hz2]; omega) (by unfold maxLen; omega) (Nat.le_refl _) ?_)
  intro w1 o1 g1
  have b1 : Below W.heap.size W w1 := below_append (Below.refl _ W) (Nat.le_refl _) (own_nil W W.heap.size 5 1) g1
  have b2 := b1.alloc b1.size (.cells #[.slice (some ⟨W.heap.size, 0, none⟩) n n] 25)
  have HB := Lib.hid b2
  have h0 := Blk.new w1 25 #[.slice (some ⟨W.heap.size, 0, none⟩) n n]
  have hs1 := b1.size
  have hcl := HC.out.blk.lt
  have hrl := HC.out.rd.blt
  have hcall := Lib.hid (cbytes_r (HC.out.below b2) w1.heap.size 0 _ _ _ h0 rfl (by omega) (by omega) (HC.out.flt hs1) n hl)
  clear o1 g1 b1 b2 h0
  go_wp2_with fail
  refine hcall.out.mono ?_
  rintro e w3 ⟨rfl, A, c, -, -, hc3, ho3⟩
  go_wp2_with fail
  first | refine bodyPost_ret (results_none rfl _ _ _) rfl ?_ | refine bodyPost_end (results_none rfl _ _ _) rfl ?_
  exact ⟨rfl, hc3, (Only.of_below HB.out).trans ho3 (fun k hk h => h.elim (fun e => by omega) id)⟩
set_option maxRecDepth 10000 in
set_option maxHeartbeats 4000000 in
theorem rest_r (hC : CR W cb rb F s) (g i : Nat) (t : TypeId) (cs : Array Value) (u : Value) (hG : Blk W g t cs) (hi : cs[i]? = some u) (hg : g ≠ cb) (hgr : g ≠ rb) (hF : ¬ F g) (hl : s.bs.length ≤ 1000000) :
    Calls Tryd.prog 71 #[.pointer (some ⟨cb, 0, none⟩), .pointer (some ⟨g, i, none⟩)] W fun e w' => e = .returned (.tuple #[]) ∧ ∃ A c, Blk w' g t (cs.setIfInBounds i (.slice A (rdB (rdL s) s).length c)) ∧ w'.ownsRow W.heap.size 5 1 (.slice A (rdB (rdL s) s).length c) (rdB (rdL s) s).length ((rdB (rdL s) s).map vb) ∧ CR w' cb rb F (rdS (rdL s) s) ∧ Only (fun k => k = g ∨ k = rb) W w' := by
  have hc1 := hC.blk.cell 1
  simp at hc1
  have H := Lib.hid (cbytes_r hC g i t cs u hG hi hg hgr hF (rdL s) hl)
  have HL := Lib.hid (left_any hC.rd)
  clear hC hG hi
  go_enter Tryd.func71, Tryd.ntmps71
  go_wp2_with fail
  refine HL.out.mono ?_
  rintro e w1 ⟨rfl, rfl⟩
  go_wp2_with fail
  refine H.out.mono ?_
  rintro e w2 ⟨rfl, hp⟩
  go_wp2_with fail
  first | refine bodyPost_ret (results_none rfl _ _ _) rfl ?_ | refine bodyPost_end (results_none rfl _ _ _) rfl ?_
  exact ⟨rfl, hp⟩
theorem arr_same {cs : Array Value} {i : Nat} {u : Value} (hi : cs[i]? = some u) : cs.setIfInBounds i u = cs := by
  apply Array.ext_getElem?
  intro j
  rw [Array.getElem?_setIfInBounds]
  by_cases e : i = j
  · subst e
    rw [if_pos rfl, hi]
    split <;> rename_i h
    · rfl
    · rw [Array.getElem?_eq_none (by omega)] at hi; cases hi
  · rw [if_neg e]
set_option maxRecDepth 10000 in
set_option maxHeartbeats 4000000 in
theorem text_r (hC : CR W cb rb F s) (g i : Nat) (t : TypeId) (cs : Array Value) (hG : Blk W g t cs) (hi : cs[i]? = some (.string (str []))) (hgr : g ≠ rb) (hl : s.bs.length ≤ 1000000) :
    Calls Tryd.prog 67 #[.pointer (some ⟨cb, 0, none⟩), .pointer (some ⟨g, i, none⟩)] W fun e w' => e = .returned (.tuple #[]) ∧ Blk w' g t (cs.setIfInBounds i (.string (str (rdB (ofBe (rdB 4 s) : Nat) (rdS 4 s))))) ∧ Only (fun k => k = g ∨ k = rb) W w' := by
  have hp : W.cell? ⟨g, i, none⟩ = some (.string (str [])) := by rw [hG.cell i, hi]
  have h0 := Blk.new W 3 #[.int .i64 0]
  have hb0 := below_a1 W (.cells #[.int .i64 0] 3)
  have hgl := hG.lt
  have hcl := hC.blk.lt
  have hrl := hC.rd.blt
  have HN := Lib.hid (cnum4_r (hC.below hb0) W.heap.size 0 _ _ (.int .i64 0) h0 rfl (by omega) (by omega) (hC.flt (Nat.le_refl _)) hl)
  have HG := Lib.hid hG
  have HI := Lib.hid hi
  have HZB := Lib.hid hb0
  have HSL := Lib.hid (rdS_len 4 s)
  have HF := Lib.hid fun (k : Nat) (hk : W.heap.size ≤ k) => hC.flt hk
  clear hC hG hi h0 hb0
  generalize ofBe (rdB 4 s) = z at *
  generalize rdS 4 s = s' at *
  simp only [List.setIfInBounds_toArray, List.set_cons_zero] at HN
  go_enter Tryd.func67, Tryd.ntmps67
  go_wp2_with fail
  refine HN.out.mono ?_
  rintro e w1 ⟨rfl, hk1, hc1, ho1⟩
  have HG1 := Lib.hid ((HG.out.alloc _).only ho1 (fun e => e.elim (fun e => by omega) hgr))
  have hq0 := HG1.out.cell i
  rw [HI.out] at hq0
  have hs1 : W.heap.size < w1.heap.size := by have := ho1.size; simp at this; omega
  obtain ⟨cB, wB, hrun, rdB', hbB, hltB⟩ := bytes_of_str w1 []
  have hbB1 := hbB.alloc hbB.size (.cells #[.slice (some ⟨w1.heap.size, 0, none⟩) ([] : List UInt8).length cB] 25)
  have HT := Lib.hid (Blk.new wB 25 #[.slice (some ⟨w1.heap.size, 0, none⟩) ([] : List UInt8).length cB])
  have HZ2 := Lib.hid (hk1.below hbB1 hk1.lt)
  have HG2 := Lib.hid (HG1.out.below hbB1 HG1.out.lt)
  have HC2 := Lib.hid (hc1.below hbB1)
  have HO2 := Lib.hid (((Only.of_below (S := fun k => k = g ∨ k = rb) HZB.out).trans ho1 (fun k hk h => h.elim (fun e => by omega) .inr)).trans (Only.of_below (S := fun _ => False) hbB1) (fun _ _ h => h.elim))
  have hn0 := HZ2.out.cell 0
  simp at hn0
  have HCB := Lib.hid (cbytes_r HC2.out wB.heap.size 0 _ _ _ HT.out rfl (by omega) (by omega) (HF.out _ (by omega)) z (Nat.le_trans HSL.out hl))
  generalize hTX : rdB (z : Int) s' = tx at *
  have HTX := Lib.hid hTX
  clear hTX
  simp only [List.setIfInBounds_toArray, List.set_cons_zero] at HCB
  simp only [List.length_nil] at hrun HT HCB HC2 HG2 HZ2 HO2 hn0
  clear hk1 hc1 ho1 rdB' hbB hbB1 HG1 HN hp
  go_wp2_with fail
  refine HCB.out.mono ?_
  rintro e w3 ⟨rfl, A3, c3, ht3, own3, hc3, ho3⟩
  have hg3 := HG2.out.only ho3 (fun e => e.elim (fun e => by omega) hgr)
  have hq2 := hg3.cell i
  rw [HI.out] at hq2
  have hq3 := hg3.frozen i
  obtain ⟨A4, c4, hv4, -, -, -, rd4⟩ := own_reads own3
  injection hv4 with e1 e2 e3
  subst e1 e3
  have hcv := run_convert_rd (P := Tryd.prog) 25 9 5 c3 Tryd.underlying25 Tryd.underlying5 Tryd.underlying9 rd4
  have ht0 := ht3.cell 0
  simp at ht0
  have HG3 := Lib.hid (hg3.set_ i (.string (str tx)))
  have ho4 : Only (· = g) w3 (w3.setCell ⟨g, i, none⟩ (.string (str tx))) := (Only.refl (· = g) w3).setCell (p := ⟨g, i, none⟩) (fun _ => rfl) _
  have HO3 := Lib.hid ((HO2.out.trans ho3 (fun k hk h => h.elim (fun e => by omega) .inr)).trans ho4 (fun _ _ h => .inl h))
  clear ht3 own3 hc3 ho3 hg3 rd4 ho4 HCB hn0 hrun
  go_wp2_with fail
  first | refine bodyPost_ret (results_none rfl _ _ _) rfl ?_ | refine bodyPost_end (results_none rfl _ _ _) rfl ?_
  rw [HTX.out]
  exact ⟨rfl, HG3.out, HO3.out⟩
set_option maxRecDepth 10000 in
set_option maxHeartbeats 4000000 in
theorem one_r (hC : CR W cb rb F s) (g i : Nat) (t : TypeId) (cs : Array Value) (hG : Blk W g t cs) (hi : cs[i]? = some (.slice none 0 0)) (hg : g ≠ cb) (hgr : g ≠ rb) (hF : ¬ F g) (hl : s.bs.length ≤ 1000000) :
    Calls Tryd.prog 70 #[.pointer (some ⟨cb, 0, none⟩), .pointer (some ⟨g, i, none⟩)] W fun e w' => e = .returned (.tuple #[]) ∧ ∃ A c, Blk w' g t (cs.setIfInBounds i (.slice A (oneB s).length c)) ∧ w'.ownsRow W.heap.size 5 1 (.slice A (oneB s).length c) (oneB s).length ((oneB s).map vb) ∧ CR w' cb rb F (oneS s) ∧ Only (fun k => k = g ∨ k = rb) W w' := by
  obtain ⟨i0, hi0, hz0, hz1, hz2⟩ := info_parts infoU8
  have hsz : (Tryd.prog.info? 5).map (·.size) = some 1 := by kernel_rfl
  have hp : W.cell? ⟨g, i, none⟩ = some (.slice none 0 0) := by rw [hG.cell i, hi]
  have hc1 := hC.blk.cell 1
  simp at hc1
  have hb0 := below_a2 W (.cells #[.slice none 0 0] 25) (.cells #[.slice none 0 0] 25)
  have h4 := (Blk.new W 25 #[.slice none 0 0]).alloc (.cells #[.slice none 0 0] 25)
  have h5 := Blk.new1 W (.cells #[.slice none 0 0] 25) 25 #[.slice none 0 0]
  have hgl := hG.lt
  have hcl := hC.blk.lt
  have hrl := hC.rd.blt
  have HB1 := Lib.hid (cbytes_r (hC.below hb0) W.heap.size 0 _ _ _ h4 rfl (by omega) (by omega) (hC.flt (Nat.le_refl _)) 19 hl)
  have HE1 : oneB s = if (rdB 19 s).length < 19 then [] else rdB 19 s ++ rdB ((ofBe (((rdB 19 s).drop 16).take 2) : Nat) - 19 : Int) (rdS 19 s) := rfl
  have HE2 : oneS s = if (rdB 19 s).length < 19 then rdS 19 s else rdS ((ofBe (((rdB 19 s).drop 16).take 2) : Nat) - 19 : Int) (rdS 19 s) := rfl
  have hl19 : (rdB 19 s).length ≤ 19 := by unfold rdB; split <;> simp; omega
  have HSL := Lib.hid (Nat.le_trans (rdS_len 19 s) hl)
  have HF := Lib.hid fun (k : Nat) (hk : W.heap.size ≤ k) => hC.flt hk
  have HG := Lib.hid hG
  have HI := Lib.hid hi
  have HZB := Lib.hid hb0
  have H5 := Lib.hid h5
  generalize oneB s = ob at *
  generalize oneS s = os at *
  generalize rdB 19 s = hd at *
  generalize rdS 19 s = s1 at *
  simp only [List.setIfInBounds_toArray, List.set_cons_zero] at HB1
  by_cases h19 : hd.length < 19
  · rw [if_pos h19] at HE1 HE2
    subst HE1 HE2
    have h19' : (hd.length : Int) < 19 := by omega
    have HC := Lib.hid hC
    clear hC hG hi hb0 h4 h5
    go_enter Tryd.func70, Tryd.ntmps70
    go_wp2_with fail
    refine HB1.out.mono ?_
    rintro e w1 ⟨rfl, A1, c1, ht1, own1, hcr1, ho1⟩
    have ht0 := ht1.cell 0
    simp at ht0
    have HR := Lib.hid hcr1
    have HG1 := Lib.hid (((HG.out.alloc _).alloc _).only ho1 (fun e => e.elim (fun e => by omega) hgr))
    have HO := Lib.hid ((Only.of_below (S := fun k => k = g ∨ k = rb) HZB.out).trans ho1 (fun k hk h => h.elim (fun e => by omega) .inr))
    clear ht1 own1 hcr1 ho1 hc1
    go_wp2_with fail
    first | refine bodyPost_ret (results_none rfl _ _ _) rfl ?_ | refine bodyPost_end (results_none rfl _ _ _) rfl ?_
    exact ⟨rfl, none, 0, by rw [arr_same HI.out]; exact HG1.out, own_nil _ _ _ _, HR.out, HO.out⟩
  · have hd19 : hd.length = 19 := by omega
    rw [if_neg h19] at HE1 HE2
    have HC := Lib.hid hC
    have HD := Lib.hid hd19
    have hl2 : ((hd.drop 16).take 2).length = 2 := by simp; omega
    have HL2 := Lib.hid hl2
    rw [hd19] at HB1
    clear hC hG hi hb0 h4 h5 hd19 h19 hl19 hl2
    have hzb := ofBe_lt ((hd.drop 16).take 2)
    rw [HL2.out, show 256 ^ 2 = 65536 from rfl] at hzb
    generalize hzz : ofBe ((hd.drop 16).take 2) = z at *
    have HZZ := Lib.hid hzz
    clear hzz
    go_enter Tryd.func70, Tryd.ntmps70
    go_wp2_with fail
    refine HB1.out.mono ?_
    rintro e w1 ⟨rfl, A1, c1, ht1, own1, hcr1, ho1⟩
    have ht0 := ht1.cell 0
    simp at ht0
    obtain ⟨A1', c1', hv1, hlc1, hcm1, -, rd1⟩ := own_reads own1
    injection hv1 with e1 e2 e3
    subst e1 e3
    have hrc : Reads w1 (fun _ => True) (cutA A1 c1 16) (((hd.drop 16).take 2).map vb) := by
      have := (rd1.cut (c := c1) (by simp [HD.out]; omega) 16).take 2
      rw [← List.map_drop, ← List.map_take] at this
      exact this.mono (fun _ _ _ => trivial)
    have HGT := Lib.hid (get_ok (cutA A1 c1 16) (c1 - 16) _ _ w1 (by rw [HL2.out]; omega) (by rw [HL2.out]; omega) hrc)
    rw [HL2.out, HZZ.out] at HGT
    have H51 := Lib.hid (H5.out.only ho1 (fun e => e.elim (fun e => by omega) (fun e => by omega)))
    have HG1 := Lib.hid (((HG.out.alloc _).alloc _).only ho1 (fun e => e.elim (fun e => by omega) hgr))
    have HO1 := Lib.hid ((Only.of_below (S := fun k => k = g ∨ k = rb) HZB.out).trans ho1 (fun k hk h => h.elim (fun e => by omega) .inr))
    have HOW := Lib.hid (own_mono own1 (show W.heap.size + 2 ≤ _ from by simp))
    have HT1 := Lib.hid ht1
    have hs1 := ho1.size
    simp at hs1
    have HB2 := Lib.hid (cbytes_r hcr1 (W.heap.size + 1) 0 _ _ _ H51.out rfl (by omega) (by omega) (HF.out _ (by omega)) ((z : Int) - 19) HSL.out)
    generalize hBD : rdB ((z : Int) - 19) s1 = bd at *
    have HBD := Lib.hid hBD
    clear hBD
    generalize rdS ((z : Int) - 19) s1 = s2 at *
    simp only [List.setIfInBounds_toArray, List.set_cons_zero] at HB2
    clear ht1 own1 hcr1 ho1 hc1 hrc rd1 HB1
    go_wp2_with (refine wpList_cut_mid (by rfl) 25 5 (.tmp 22) (.const (.int .i64 16)) (.const (.int .i64 18)) rfl Tryd.underlying25 hsz A1 19 c1 16 18 16 18 (by rfl) (by rfl) (by rfl) rfl rfl (by omega) (by omega) ?_)
    refine HGT.out.mono ?_
    rintro e w2 ⟨rfl, rfl⟩
    go_wp2_with fail
    refine HB2.out.mono ?_
    rintro e w3 ⟨rfl, A3, c3, ht3, own3, hcr3, ho3⟩
    have HT3 := Lib.hid (HT1.out.only ho3 (fun e => e.elim (fun e => by omega) (fun e => by omega)))
    have hG3 := HG1.out.only ho3 (fun e => e.elim (fun e => by omega) hgr)
    have hO3 := HO1.out.trans ho3 (fun k hk h => h.elim (fun e => by omega) .inr)
    have hr1 : (Value.slice A1 19 c1).ownBlock ≠ some rb := fun e => by have := (HOW.out.lt _ e).1; omega
    have hr5 : (Value.slice A1 19 c1).ownBlock ≠ some (W.heap.size + 1) := own_apart HOW.out H51.out (by decide)
    have hOW3 := own_only HOW.out ho3 (fun k hk e => e.elim (fun e => hr5 (e ▸ hk)) (fun e => hr1 (e ▸ hk)))
    obtain ⟨A3', c3', hv3, -, -, -, rd3⟩ := own_reads own3
    injection hv3 with e1 e2 e3
    subst e1 e3
    have ht30 := HT3.out.cell 0
    have ht31 := ht3.cell 0
    simp at ht30 ht31
    have hW3 : W.heap.size ≤ w3.heap.size := hO3.size
    have hbl : bd.length ≤ 1000000 := by rw [← HBD.out]; exact Nat.le_trans (rdB_len _ _) HSL.out
    have HR3 := Lib.hid hcr3
    have HG3 := Lib.hid hG3
    have HO3 := Lib.hid hO3
    have HOW3 := Lib.hid (own_mono hOW3 (show W.heap.size ≤ _ by omega))
    clear ht3 own3 hcr3 ho3 hG3 hO3 hOW3 HB2 HGT hr5 hr1
    go_wp2_with (refine wpList_append_rd _ (by rfl) (.tmp 32) (.tmp 33) 25 rfl W.heap.size 5 i0 (.int .u8 0) 1 1 Tryd.underlying25 hi0 hz0 hz1 hz2 rfl (by omega) _ 19 (hd.map vb) (by rfl) HOW3.out _ A3 bd.length c3 (bd.map vb) (by rfl) (by simp) rd3 (vb_one _) (by unfold maxLen; omega) (by omega) hW3 ?_)
    intro v4 w4 hown4 hg4 hloc4
    obtain ⟨A4, c4, hv4, -, -, -, -⟩ := own_reads hown4
    subst hv4
    have ho4 : Only (fun k => (Value.slice A1 19 c1).ownBlock = some k) w3 w4 := (Only.refl _ w3).grown hg4 (fun k hk _ => hk)
    have hno : ∀ k, (Value.slice A1 19 c1).ownBlock = some k → W.heap.size ≤ k := fun k hk => (HOW3.out.lt k hk).1
    have hg5 := HG3.out.only ho4 (fun e => by have := hno _ e; omega)
    have hq0 := hg5.cell i
    rw [HI.out] at hq0
    have hq1 := hg5.frozen i
    have hcr4 := HR3.out.only ho4 (fun e => by have := hno _ e; omega) (fun e => by have := hno _ e; omega) (fun k hk e => HF.out k (hno _ e) hk)
    have ho5 : Only (· = g) w4 (w4.setCell ⟨g, i, none⟩ (.slice A4 (19 + bd.length) c4)) := (Only.refl (· = g) w4).setCell (p := ⟨g, i, none⟩) (fun _ => rfl) _
    have HG5 := Lib.hid (hg5.set_ i (.slice A4 (19 + bd.length) c4))
    have HR5 := Lib.hid (hcr4.only ho5 (fun e => hg e.symm) (fun e => hgr e.symm) (fun k hk e => hF (e ▸ hk)))
    have HO5 := Lib.hid (((HO3.out.trans ho4 (fun k hk h => absurd (hno k h) (by omega))).trans ho5 (fun _ _ h => .inl h)))
    have HW5 := Lib.hid (own_only hown4 ho5 (fun k hk e => by have := (hown4.lt k hk).1; omega))
    clear ho4 ho5 hg5 hcr4 hown4 hg4 hloc4 rd3 hno
    go_wp2_with fail
    first | refine bodyPost_ret (results_none rfl _ _ _) rfl ?_ | refine bodyPost_end (results_none rfl _ _ _) rfl ?_
    have e1 : ob.length = 19 + bd.length := by rw [HE1, List.length_append, HD.out]
    rw [e1, HE1, HE2]
    refine ⟨rfl, A4, c4, HG5.out, ?_, HR5.out, HO5.out⟩
    rw [List.map_append]
    exact HW5.out
end
end Go.Proofs.YtbmbpcibihddaaaDoor
