/-
  What is monitored, by the document: a body is read. No condition but that bytes read as data.
-/
import Derived.Test.YtbmbpcibihddaaaDoorBmpG
import Derived.Test.YtbmbpcibihddaaaDoorBmpLB
import Derived.Test.YtbmbpcibihddaaaDoorNumGet
namespace Go.Proofs.YtbmbpcibihddaaaDoor
open Go.ChangeShapes Go.WideShapes Go.ChangeAt Go.RowKit

section
variable {W : World} {F : Nat → Prop} {rb : Nat} {s : RS}
theorem rnbytes_any (h : RD W F 112 rb s.bs s.bad) (n : Int) (hl : s.bs.length ≤ 1000000) :
    Calls Tryd.prog 74 #[.pointer (some ⟨rb, 0, none⟩), .int .i64 n] W fun e w' => ∃ A c, e = .returned (.slice A (rdB n s).length c) ∧ w'.ownsRow W.heap.size 5 1 (.slice A (rdB n s).length c) (rdB n s).length ((rdB n s).map vb) ∧ RD w' F 112 rb (rdS n s).bs (rdS n s).bad ∧ Only (· = rb) W w' := by
  obtain ⟨bs, bad⟩ := s
  cases hn : rdOk n bs bad with
  | false =>
    refine (rbytes_no h n hn).mono ?_
    rintro e w1 ⟨rfl, hr, ho⟩
    have e1 : rdB n ⟨bs, bad⟩ = [] := by unfold rdB; rw [hn]; rfl
    have e2 : rdS n ⟨bs, bad⟩ = ⟨bs, true⟩ := by unfold rdS; rw [hn]; rfl
    rw [e1, e2]
    exact ⟨none, 0, rfl, own_nil _ _ _ _, hr, ho⟩
  | true =>
    obtain ⟨rfl, m, rfl, hm⟩ := rdOk_form hn
    refine (rbytes_ok h m hm (by omega)).mono ?_
    rintro e w1 ⟨v, rfl, hown, hr, ho⟩
    have e1 : rdB (m : Int) ⟨bs, false⟩ = bs.take m := by unfold rdB; rw [if_pos hn]; rfl
    have e2 : rdS (m : Int) ⟨bs, false⟩ = ⟨bs.drop m, false⟩ := by unfold rdS; rw [if_pos hn]; rfl
    have hlt : (bs.take m).length = m := by simp; omega
    obtain ⟨A, c, hv, -⟩ := own_reads hown
    subst hv
    rw [e1, e2, hlt]
    exact ⟨A, c, rfl, hown, hr, ho⟩
theorem rnnum_any (h : RD W F 112 rb s.bs s.bad) (k : Nat) (h1 : 1 ≤ k) (h4 : k ≤ 4) (hl : s.bs.length ≤ 1000000) :
    Calls Tryd.prog 73 #[.pointer (some ⟨rb, 0, none⟩), .int .i64 k] W fun e w' => e = .returned (.int .i64 (ofBe (rdB k s))) ∧ RD w' F 112 rb (rdS k s).bs (rdS k s).bad ∧ Only (· = rb) W w' := by
  obtain ⟨bs, bad⟩ := s
  cases hn : rdOk k bs bad with
  | false =>
    have e1 : rdB k ⟨bs, bad⟩ = [] := by unfold rdB; rw [hn]; rfl
    have e2 : rdS k ⟨bs, bad⟩ = ⟨bs, true⟩ := by unfold rdS; rw [hn]; rfl
    rw [e1, e2]
    exact rnum_no h k (by simp [numOk, hn])
  | true =>
    obtain ⟨rfl, hm⟩ := rdOk_nat hn
    have e1 : rdB (k : Int) ⟨bs, false⟩ = bs.take k := by unfold rdB; rw [if_pos hn]; rfl
    have e2 : rdS (k : Int) ⟨bs, false⟩ = ⟨bs.drop k, false⟩ := by unfold rdS; rw [if_pos hn]; rfl
    rw [e1, e2]
    exact rnum_ok h k h1 h4 hm (by omega)
end
/-- on the way: what is read so far, what is left -/
structure RQ (W w : World) (rb mb : Nat) (F : Nat → Prop) (m : MoV) (s : RS) : Prop where
  rd : RD w F 112 rb s.bs s.bad
  mon : Blk w mb 45 m.cells
  only : Only (fun k => k = mb ∨ k = rb) W w
  mrd : m.Rd w (fun k => W.heap.size ≤ k)
  mbl : mb < W.heap.size
  rbl : rb < W.heap.size
  nf : ¬ F mb
  len : s.bs.length ≤ 1000000
section
variable {W w w' : World} {rb mb : Nat} {F : Nat → Prop} {m : MoV} {s s' : RS}
theorem RQ.nrb (h : RQ W w rb mb F m s) : mb ≠ rb := by
  obtain ⟨A, c, hb, -⟩ := h.rd.ex
  exact Blk.ne_ h.mon hb (by decide)
theorem RQ.call (h : RQ W w rb mb F m s) (hr : RD w' F 112 rb s'.bs s'.bad) (ho : Only (· = rb) w w') (hl : s'.bs.length ≤ s.bs.length) : RQ W w' rb mb F m s' :=
  ⟨hr, h.mon.only ho h.nrb, h.only.trans ho (fun _ _ h => .inr h), h.mrd.only ho (fun _ _ hb e => by have := h.rbl; omega), h.mbl, h.rbl, h.nf, Nat.le_trans hl h.len⟩
theorem RQ.set (h : RQ W w rb mb F m s) (i : Nat) (u : Value) (m' : MoV) (hc : m.cells.setIfInBounds i u = m'.cells) (hr : m'.Rd w (fun k => W.heap.size ≤ k)) : RQ W (w.setCell ⟨mb, i, none⟩ u) rb mb F m' s := by
  have ho : Only (· = mb) w (w.setCell ⟨mb, i, none⟩ u) := (Only.refl (· = mb) w).setCell (p := ⟨mb, i, none⟩) (fun _ => rfl) _
  exact ⟨h.rd.only ho (fun e => h.nrb e.symm) (fun k hk e => h.nf (e ▸ hk)), by rw [← hc]; exact h.mon.set_ i u, h.only.trans ho (fun _ _ h => .inl h), hr.only ho (fun _ _ hb e => by have := h.mbl; omega), h.mbl, h.rbl, h.nf, h.len⟩
theorem RQ.set_addr (h : RQ W w rb mb F m s) (z : Nat) : RQ W (w.setCell ⟨mb, 2, none⟩ (.int .u32 z)) rb mb F { m with addr := z } s :=
  h.set 2 (.int .u32 z) { m with addr := z } rfl ⟨h.mrd.s, h.mrd.c, h.mrd.sl, h.mrd.cl, h.mrd.sk, h.mrd.ck, h.mrd.tl⟩
theorem RQ.set_id (h : RQ W w rb mb F m s) (z : Nat) : RQ W (w.setCell ⟨mb, 1, none⟩ (.int .u32 z)) rb mb F { m with id := z } s :=
  h.set 1 (.int .u32 z) { m with id := z } rfl ⟨h.mrd.s, h.mrd.c, h.mrd.sl, h.mrd.cl, h.mrd.sk, h.mrd.ck, h.mrd.tl⟩
theorem RQ.set_own (h : RQ W w rb mb F m s) (z : Nat) : RQ W (w.setCell ⟨mb, 6, none⟩ (.int .u32 z)) rb mb F { m with own := z } s :=
  h.set 6 (.int .u32 z) { m with own := z } rfl ⟨h.mrd.s, h.mrd.c, h.mrd.sl, h.mrd.cl, h.mrd.sk, h.mrd.ck, h.mrd.tl⟩
theorem RQ.set_asn (h : RQ W w rb mb F m s) (z : Int) : RQ W (w.setCell ⟨mb, 3, none⟩ (.int .i64 z)) rb mb F { m with asn := z } s :=
  h.set 3 (.int .i64 z) { m with asn := z } rfl ⟨h.mrd.s, h.mrd.c, h.mrd.sl, h.mrd.cl, h.mrd.sk, h.mrd.ck, h.mrd.tl⟩
theorem RQ.set_time (h : RQ W w rb mb F m s) (z : Int) : RQ W (w.setCell ⟨mb, 4, none⟩ (.int .i64 z)) rb mb F { m with time := z } s :=
  h.set 4 (.int .i64 z) { m with time := z } rfl ⟨h.mrd.s, h.mrd.c, h.mrd.sl, h.mrd.cl, h.mrd.sk, h.mrd.ck, h.mrd.tl⟩
theorem RQ.set_reason (h : RQ W w rb mb F m s) (z : Int) : RQ W (w.setCell ⟨mb, 5, none⟩ (.int .i64 z)) rb mb F { m with reason := z } s :=
  h.set 5 (.int .i64 z) { m with reason := z } rfl ⟨h.mrd.s, h.mrd.c, h.mrd.sl, h.mrd.cl, h.mrd.sk, h.mrd.ck, h.mrd.tl⟩
theorem RQ.set_came (h : RQ W w rb mb F m s) {B : Nat} {A : Option Addr} {c : Nat} {l : List UInt8} (ho : w.ownsRow B 5 1 (.slice A l.length c) l.length (l.map vb)) (hB : W.heap.size ≤ B) (hl : l.length ≤ 1000000) : RQ W (w.setCell ⟨mb, 8, none⟩ (.slice A l.length c)) rb mb F { m with cA := A, cc := c, came := l } s := by
  obtain ⟨A', c', hv, h1, h2, -, h3⟩ := own_reads ho
  injection hv with e1 e2 e3
  subst e1 e3
  have r := h.mrd
  exact h.set 8 _ { m with cA := A, cc := c, came := l } rfl ⟨r.s, h3.mono (fun k _ hk => Nat.le_trans hB hk.1), r.sl, by show l.length ≤ _; omega, r.sk, h1, r.tl⟩
theorem RQ.set_sent (h : RQ W w rb mb F m s) {B : Nat} {A : Option Addr} {c : Nat} {l : List UInt8} (ho : w.ownsRow B 5 1 (.slice A l.length c) l.length (l.map vb)) (hB : W.heap.size ≤ B) (hl : l.length ≤ 1000000) : RQ W (w.setCell ⟨mb, 7, none⟩ (.slice A l.length c)) rb mb F { m with sA := A, sc := c, sent := l } s := by
  obtain ⟨A', c', hv, h1, h2, -, h3⟩ := own_reads ho
  injection hv with e1 e2 e3
  subst e1 e3
  have r := h.mrd
  exact h.set 7 _ { m with sA := A, sc := c, sent := l } rfl ⟨h3.mono (fun k _ hk => Nat.le_trans hB hk.1), r.c, by show l.length ≤ _; omega, r.cl, h1, r.ck, r.tl⟩
theorem RQ.set_text (h : RQ W w rb mb F m s) (l : List UInt8) (hl : l.length ≤ 1000000) : RQ W (w.setCell ⟨mb, 9, none⟩ (.string (str l))) rb mb F { m with text := l } s :=
  h.set 9 _ { m with text := l } rfl ⟨h.mrd.s, h.mrd.c, h.mrd.sl, h.mrd.cl, h.mrd.sk, h.mrd.ck, by show l.length ≤ _; omega⟩
theorem rq_num_eq {z : Nat} (h : RQ W w rb mb F m s) (k : Nat) (h1 : 1 ≤ k) (h4 : k ≤ 4) (hz : ofBe (rdB k s) = z) (hs : rdS k s = s') :
    Calls Tryd.prog 73 #[.pointer (some ⟨rb, 0, none⟩), .int .i64 k] w fun e w' => e = .returned (.int .i64 z) ∧ RQ W w' rb mb F m s' := by
  subst hz hs
  exact (rnnum_any h.rd k h1 h4 h.len).mono fun _ _ ⟨he, hr, hon⟩ => ⟨he, h.call hr hon (rdS_len _ _)⟩
theorem rq_bytes_eq {l : List UInt8} (h : RQ W w rb mb F m s) (n : Int) (hz : rdB n s = l) (hs : rdS n s = s') :
    Calls Tryd.prog 74 #[.pointer (some ⟨rb, 0, none⟩), .int .i64 n] w fun e w' => ∃ A c, e = .returned (.slice A l.length c) ∧ w'.ownsRow w.heap.size 5 1 (.slice A l.length c) l.length (l.map vb) ∧ RQ W w' rb mb F m s' ∧ l.length ≤ 1000000 := by
  subst hz hs
  exact (rnbytes_any h.rd n h.len).mono fun _ _ ⟨A, c, he, ho, hr, hon⟩ => ⟨A, c, he, ho, h.call hr hon (rdS_len _ _), Nat.le_trans (rdB_len _ _) h.len⟩
end
set_option maxRecDepth 20000 in
set_option maxHeartbeats 16000000 in
theorem rread_any (kind : Int) (A : Option Addr) (c : Nat) (b : List UInt8) (F : Nat → Prop) (w : World) (hl : b.length ≤ 1000000) (hr : Reads w F A (b.map vb)) :
    Calls Tryd.prog 56 #[.int .i64 kind, .slice A b.length c] w fun e w' => ∃ m : MoV, m.d = read2 kind b ∧ e = .returned m.val ∧ m.Rd w' (fun k => w.heap.size ≤ k) ∧ Below w.heap.size w w' := by
  obtain ⟨i0, hi0, hz0, hz1, hz2⟩ := info_parts infoU8
  have hsz : (Tryd.prog.info? 5).map (·.size) = some 1 := by kernel_rfl
  have b0 := below_a2 w (.cells (mon0 0).cells 45) (.cells (mon0 kind).cells 45)
  have hM := Blk.new1 w (.cells (mon0 0).cells 45) 45 (mon0 kind).cells
  have hZ := (Blk.new w 45 (mon0 0).cells).alloc (.cells (mon0 kind).cells 45)
  have b1 := b0.alloc b0.size (.cells #[] 5)
  have b1' := below_a1 ((w.alloc (.cells (mon0 0).cells 45)).alloc (.cells (mon0 kind).cells 45)) (.cells #[] 5)
  have hE : (((w.alloc (.cells (mon0 0).cells 45)).alloc (.cells (mon0 kind).cells 45)).alloc (.cells #[] 5)).ownsRow (w.heap.size + 2) 5 1 (.slice (some ⟨w.heap.size + 2, 0, none⟩) 0 0) 0 (([] : List UInt8).map vb) := own_empty _ _ _ _ _ (Nat.le_refl _) (by have := heap_alloc_new ((w.alloc (.cells (mon0 0).cells 45)).alloc (.cells (mon0 kind).cells 45)) (.cells #[] 5); simpa using this)
  have hr1 := ((hr.mono (G := (· < w.heap.size)) (fun _ h _ => h)).below b1 (fun _ _ h => h)).mono (G := fun _ => True) (fun _ _ _ => trivial)
  have HM := Lib.hid (hM.below b1' hM.lt)
  have HZ := Lib.hid (hZ.below b1' hZ.lt)
  have HB1 := Lib.hid b1
  clear hr b0 b1 b1' hM hZ
  go_enter Tryd.func56, Tryd.ntmps56
  go_wp2_with (first | (refine wpList_store_new (by rfl) 45 (.tmp 5) (.tmp 9) rfl _ _ (mon0 kind).cells rfl (by rfl) (by rfl) (by kernel_rfl) (by rfl) (mon_one _) ?_) | (refine wpList_append_rd _ (by rfl) (.tmp 10) (.tmp 11) 25 rfl (w.heap.size + 2) 5 i0 (.int .u8 0) 1 1 Tryd.underlying25 hi0 hz0 hz1 hz2 rfl (by omega) _ 0 (([] : List UInt8).map vb) (by rfl) hE (fun _ => True) A b.length c (b.map vb) (by rfl) (by simp) hr1 (vb_one _) (by unfold maxLen; omega) (by omega) (by simp) ?_))
  intro v2 w2 hown2 hg2 _
  obtain ⟨A2, c2, hv2, hlc2, hcm2, hn2, rd2⟩ := own_reads hown2
  subst hv2
  have hb2 := below_append HB1.out HB1.out.size (own_mono hE (by omega)) hg2
  have hM2 := HM.out.grown hg2 (fun e => by simp [Value.ownBlock] at e)
  have hZ2 := HZ.out.grown hg2 (fun e => by simp [Value.ownBlock] at e)
  have hs2 : w.heap.size + 2 ≤ w2.heap.size := by have := hg2.size; simp at this; omega
  have b3 := below_a1 w2 (.cells #[.slice A2 b.length c2, .bool false] 112)
  have hRQ : RQ (w2.alloc (.cells #[.slice A2 b.length c2, .bool false] 112)) (w2.alloc (.cells #[.slice A2 b.length c2, .bool false] 112)) w2.heap.size (w.heap.size + 1) (fun k => w.heap.size + 2 ≤ k ∧ k < w2.heap.size) (mon0 kind) ⟨b, false⟩ :=
    ⟨⟨⟨A2, c2, Blk.new w2 _ _, hlc2, hcm2, hn2, (rd2.mono (fun k hk h => ⟨h.1, hk⟩)).alloc _⟩, fun h => by omega, fun k hk => by simp; omega⟩, hM2.below b3 hM2.lt, Only.refl _ _, ⟨.nil, .nil, by simp [mon0], by simp [mon0], by simp [mon0], by simp [mon0], by simp [mon0]⟩, by simp; omega, by simp, fun h => by omega, hl⟩
  have HB3 := Lib.hid (hb2.trans (b3.mono hb2.size))
  have hZ3 := hZ2.below b3 hZ2.lt
  have HWS := Lib.hid (show w.heap.size < (w2.alloc (.cells #[.slice A2 b.length c2, .bool false] 112)).heap.size by simp; omega)
  have HRES := Lib.hid fun (W' : World) (h : Only (fun k => k = w.heap.size + 1 ∨ k = w2.heap.size) (w2.alloc (.cells #[.slice A2 b.length c2, .bool false] 112)) W') => hZ3.only h (fun e => by omega)
  have HFIN := Lib.hid fun (W' : World) (h : Only (fun k => k = w.heap.size + 1 ∨ k = w2.heap.size) (w2.alloc (.cells #[.slice A2 b.length c2, .bool false] 112)) W') => HB3.out.trans (h.below (B := w.heap.size) HB3.out.size (fun k hk => by omega))
  have HS0 := Lib.hid hRQ
  clear hb2 hM2 hZ2 b3 hRQ hZ3 rd2 hown2 hg2 hlc2 hcm2 hn2 hr1 hE HM HZ
  obtain ⟨wA, hwA⟩ : ∃ wA, w2.alloc (.cells #[.slice A2 b.length c2, .bool false] 112) = wA := ⟨_, rfl⟩
  rw [hwA] at HS0 HFIN HRES HWS HB3
  have HWA := Lib.hid hwA
  clear hwA
  go_upto_region 3 with fail
  rw [HWA.out]
  have hk : (kind = 4 ∨ (¬ kind = 4 ∧ kind = 5)) ∨ (¬ kind = 4 ∧ ¬ kind = 5) := by omega
  rcases hk with hk | ⟨h4, h5⟩
  · have HT := Lib.hid (show read2 kind b = readT kind (ofBe (rdB 2 (rdS 2 ⟨b, false⟩))) (rdS 2 (rdS 2 ⟨b, false⟩)) from by unfold read2; rw [if_pos (by rcases hk with h | h <;> simp [talksB, h])])
    rcases hk with rfl | ⟨h4, rfl⟩
    all_goals
      obtain ⟨s0, hs0⟩ : ∃ s0, (⟨b, false⟩ : RS) = s0 := ⟨_, rfl⟩
      rw [hs0] at HS0 HT
      obtain ⟨z1, hz1⟩ : ∃ z1, ofBe (rdB 2 s0) = z1 := ⟨_, rfl⟩
      obtain ⟨s1, hs1⟩ : ∃ s1, rdS 2 s0 = s1 := ⟨_, rfl⟩
      have Hz1 := Lib.hid hz1
      have Hs1 := Lib.hid hs1
      have HC := Lib.hid (rq_num_eq HS0.out 2 (by omega) (by omega) hz1 hs1)
      clear hz1 hs1
      go_wp2_with fail
      refine HC.out.mono ?_
      rintro e w3 ⟨rfl, hs⟩
      have HS1 := Lib.hid hs
      clear hs HC
      obtain ⟨z2, hz2⟩ : ∃ z2, ofBe (rdB 2 s1) = z2 := ⟨_, rfl⟩
      obtain ⟨s2, hs2⟩ : ∃ s2, rdS 2 s1 = s2 := ⟨_, rfl⟩
      have Hz2 := Lib.hid hz2
      have Hs2 := Lib.hid hs2
      have HC := Lib.hid (rq_num_eq HS1.out 2 (by omega) (by omega) hz2 hs2)
      clear hz2 hs2
      go_wp2_with fail
      refine HC.out.mono ?_
      rintro e w4 ⟨rfl, hs⟩
      have HS2 := Lib.hid hs
      clear hs HC
      obtain ⟨tx, htx⟩ : ∃ tx, rdB z2 s2 = tx := ⟨_, rfl⟩
      obtain ⟨s3, hs3⟩ : ∃ s3, rdS z2 s2 = s3 := ⟨_, rfl⟩
      have Htx := Lib.hid htx
      have Hs3 := Lib.hid hs3
      have HC := Lib.hid (rq_bytes_eq HS2.out z2 htx hs3)
      clear htx hs3
      go_wp2_with fail
      refine HC.out.mono ?_
      rintro e w5 ⟨Aw5, cw5, rfl, ow5, hs, hlw5⟩
      have HS3 := Lib.hid hs
      clear hs HC
      obtain ⟨A5', c5', hv5, -, -, -, rd5⟩ := own_reads ow5
      injection hv5 with e1 e2 e3
      subst e1 e3
      have hcv := own_str2 (c := cw5) rd5 rfl
      obtain ⟨q0, q1, q2, q3, q4, q5, q6, q7, q8, q9⟩ := blk10 HS3.out.mon
      dsimp only [mon0, List.length_nil] at q0 q1 q2 q3 q4 q5 q6 q7 q8 q9
      have z9 := HS3.out.mon.frozen 9
      have HS4 := Lib.hid (HS3.out.set_text tx hlw5)
      clear ow5 rd5 e2 hlw5
      go_wp2_with (first | (refine wpList_load_blk (by rfl) 45 (.tmp 5) rfl (w.heap.size + 1) (by rfl) 45 _ _ HS4.out.mon Tryd.underlying45 rfl (by kernel_rfl) ?_) | (refine wpList_store_blk (by rfl) 45 (.tmp 4) (.tmp 29) rfl w.heap.size _ (by rfl) (by rfl) 45 _ (HRES.out _ HS4.out.only) (by kernel_rfl) (by rfl) (mon_one _) ?_))
      refine bodyPost_ret (results_cell_row rfl _ _ w.heap.size 45 _ (0, 0) _ (by rfl) ((HRES.out _ HS4.out.only).setRow_ _) Tryd.underlying45 rfl (by kernel_rfl)) rfl ?_
      refine ⟨_, ?_, rfl, ((HS4.out.mrd.only (only_setRow _ w.heap.size _) (fun k _ hk e => by have := HWS.out; omega)).mono (fun k _ hk => by have := HWS.out; omega)), below_setRow (HFIN.out _ HS4.out.only) (Nat.le_refl _) _⟩
      rw [HT.out]
      have hz1 := Hz1.out
      subst hz1
      have hs1 := Hs1.out
      subst hs1
      have hz2 := Hz2.out
      subst hz2
      have hs2 := Hs2.out
      subst hs2
      have htx := Htx.out
      subst htx
      have hs3 := Hs3.out
      subst hs3
      rfl
  · have HT := Lib.hid (show read2 kind b = readP kind rOneB rOneS ⟨b, false⟩ from by unfold read2; rw [if_neg (by simp [talksB, h4, h5])])
    have z4' : (kind == 4) = false := by simp [h4]
    have z5' : (kind == 5) = false := by simp [h5]
    obtain ⟨s0, hs0⟩ : ∃ s0, (⟨b, false⟩ : RS) = s0 := ⟨_, rfl⟩
    rw [hs0] at HS0 HT
    obtain ⟨lz, hlz⟩ : ∃ lz, rdB 22 s0 = lz := ⟨_, rfl⟩
    obtain ⟨s1, hs1⟩ : ∃ s1, rdS 22 s0 = s1 := ⟨_, rfl⟩
    have Hlz := Lib.hid hlz
    have Hs1 := Lib.hid hs1
    have HC := Lib.hid (rq_bytes_eq HS0.out 22 hlz hs1)
    clear hlz hs1
    go_wp2_with fail
    refine HC.out.mono ?_
    rintro e w3 ⟨Aw3, cw3, rfl, ow3, hs, hlw3⟩
    have HS1 := Lib.hid hs
    clear hs HC
    obtain ⟨ad, had⟩ : ∃ ad, ofBe (rdB 4 s1) = ad := ⟨_, rfl⟩
    obtain ⟨s2, hs2⟩ : ∃ s2, rdS 4 s1 = s2 := ⟨_, rfl⟩
    have Had := Lib.hid had
    have Hs2 := Lib.hid hs2
    have HC := Lib.hid (rq_num_eq HS1.out 4 (by omega) (by omega) had hs2)
    have hmad : ((ad : Nat) : Int) % 4294967296 = ((ad : Nat) : Int) := by have := ofBe_lt4 s1; rw [had] at this; omega
    clear had hs2
    go_wp2_with fail
    refine HC.out.mono ?_
    rintro e w4 ⟨rfl, hs⟩
    have HS2 := Lib.hid hs
    clear hs HC
    obtain ⟨asq, hasq⟩ : ∃ asq, ofBe (rdB 4 s2) = asq := ⟨_, rfl⟩
    obtain ⟨s3, hs3⟩ : ∃ s3, rdS 4 s2 = s3 := ⟨_, rfl⟩
    have Hasq := Lib.hid hasq
    have Hs3 := Lib.hid hs3
    have HC := Lib.hid (rq_num_eq HS2.out 4 (by omega) (by omega) hasq hs3)
    have hmasq : ((asq : Nat) : Int) % 4294967296 = ((asq : Nat) : Int) := by have := ofBe_lt4 s2; rw [hasq] at this; omega
    clear hasq hs3
    go_wp2_with fail
    refine HC.out.mono ?_
    rintro e w5 ⟨rfl, hs⟩
    have HS3 := Lib.hid hs
    clear hs HC
    obtain ⟨q0, q1, q2, q3, q4, q5, q6, q7, q8, q9⟩ := blk10 HS3.out.mon
    dsimp only [mon0, List.length_nil] at q0 q1 q2 q3 q4 q5 q6 q7 q8 q9
    have z2 := HS3.out.mon.frozen 2
    have z3 := HS3.out.mon.frozen 3
    have HS4 := Lib.hid ((HS3.out.set_addr ad).set_asn asq)
    obtain ⟨id, hid⟩ : ∃ id, ofBe (rdB 4 s3) = id := ⟨_, rfl⟩
    obtain ⟨s4, hs4⟩ : ∃ s4, rdS 4 s3 = s4 := ⟨_, rfl⟩
    have Hid := Lib.hid hid
    have Hs4 := Lib.hid hs4
    have HC := Lib.hid (rq_num_eq HS4.out 4 (by omega) (by omega) hid hs4)
    have hmid : ((id : Nat) : Int) % 4294967296 = ((id : Nat) : Int) := by have := ofBe_lt4 s3; rw [hid] at this; omega
    clear hid hs4
    go_wp2_with fail
    refine HC.out.mono ?_
    rintro e w6 ⟨rfl, hs⟩
    have HS5 := Lib.hid hs
    clear hs HC
    clear q0 q1 q2 q3 q4 q5 q6 q7 q8 q9 z2 z3
    obtain ⟨tm, htm⟩ : ∃ tm, ofBe (rdB 4 s4) = tm := ⟨_, rfl⟩
    obtain ⟨s5, hs5⟩ : ∃ s5, rdS 4 s4 = s5 := ⟨_, rfl⟩
    have Htm := Lib.hid htm
    have Hs5 := Lib.hid hs5
    have HC := Lib.hid (rq_num_eq HS5.out 4 (by omega) (by omega) htm hs5)
    have hmtm : ((tm : Nat) : Int) % 4294967296 = ((tm : Nat) : Int) := by have := ofBe_lt4 s4; rw [htm] at this; omega
    clear htm hs5
    go_wp2_with fail
    refine HC.out.mono ?_
    rintro e w7 ⟨rfl, hs⟩
    have HS6 := Lib.hid hs
    clear hs HC
    obtain ⟨q0, q1, q2, q3, q4, q5, q6, q7, q8, q9⟩ := blk10 HS6.out.mon
    dsimp only [mon0, List.length_nil] at q0 q1 q2 q3 q4 q5 q6 q7 q8 q9
    have z1 := HS6.out.mon.frozen 1
    have z4 := HS6.out.mon.frozen 4
    have HS7 := Lib.hid ((HS6.out.set_id id).set_time tm)
    obtain ⟨lz2, hlz2⟩ : ∃ lz2, rdB 4 s5 = lz2 := ⟨_, rfl⟩
    obtain ⟨s6, hs6⟩ : ∃ s6, rdS 4 s5 = s6 := ⟨_, rfl⟩
    have Hlz2 := Lib.hid hlz2
    have Hs6 := Lib.hid hs6
    have HC := Lib.hid (rq_bytes_eq HS7.out 4 hlz2 hs6)
    clear hlz2 hs6
    go_wp2_with fail
    refine HC.out.mono ?_
    rintro e w8 ⟨Aw8, cw8, rfl, ow8, hs, hlw8⟩
    have HS8 := Lib.hid hs
    clear hs HC
    clear q0 q1 q2 q3 q4 q5 q6 q7 q8 q9 z1 z4 ow3 ow8
    by_cases h2 : kind = 2
    · subst h2
      obtain ⟨rs, hrs⟩ : ∃ rs, ofBe (rdB 1 s6) = rs := ⟨_, rfl⟩
      obtain ⟨s7, hs7⟩ : ∃ s7, rdS 1 s6 = s7 := ⟨_, rfl⟩
      have Hrs := Lib.hid hrs
      have Hs7 := Lib.hid hs7
      have HC := Lib.hid (rq_num_eq HS8.out 1 (by omega) (by omega) hrs hs7)
      clear hrs hs7
      go_wp2_with fail
      refine HC.out.mono ?_
      rintro e w9 ⟨rfl, hs⟩
      have HS9 := Lib.hid hs
      clear hs HC
      obtain ⟨q0, q1, q2, q3, q4, q5, q6, q7, q8, q9⟩ := blk10 HS9.out.mon
      dsimp only [mon0, List.length_nil] at q0 q1 q2 q3 q4 q5 q6 q7 q8 q9
      have z5 := HS9.out.mon.frozen 5
      have HSA := Lib.hid (HS9.out.set_reason rs)
      have HLF := Lib.hid (rleft_any HSA.out.rd)
      obtain ⟨lf, hlf⟩ : ∃ lf, rdL s7 = lf := ⟨_, rfl⟩
      have Hlf := Lib.hid hlf
      have HLF2 := Lib.hid (show Calls Tryd.prog 75 #[.pointer (some ⟨w2.heap.size, 0, none⟩)] _ (fun e w' => e = .returned (.int .i64 lf) ∧ _ = w') from by have h := HLF.out; rw [show leftN s7.bs s7.bad = lf from hlf] at h; exact h)
      clear hlf HLF
      go_wp2_with fail
      refine HLF2.out.mono ?_
      rintro e wL ⟨rfl, rfl⟩
      obtain ⟨came, hcame⟩ : ∃ came, rdB lf s7 = came := ⟨_, rfl⟩
      obtain ⟨sE, hsE⟩ : ∃ sE, rdS lf s7 = sE := ⟨_, rfl⟩
      have Hcame := Lib.hid hcame
      have HsE := Lib.hid hsE
      have HC := Lib.hid (rq_bytes_eq HSA.out lf hcame hsE)
      clear hcame hsE
      go_wp2_with fail
      refine HC.out.mono ?_
      rintro e w10 ⟨Aw10, cw10, rfl, ow10, hs, hlw10⟩
      have HSC := Lib.hid hs
      clear hs HC
      obtain ⟨q0, q1, q2, q3, q4, q5, q6, q7, q8, q9⟩ := blk10 HSC.out.mon
      dsimp only [mon0, List.length_nil] at q0 q1 q2 q3 q4 q5 q6 q7 q8 q9
      have z8 := HSC.out.mon.frozen 8
      have HSD := Lib.hid (HSC.out.set_came ow10 (HSA.out.only.size) hlw10)
      clear ow10 hlw10
      go_wp2_with (first | (refine wpList_load_blk (by rfl) 45 (.tmp 5) rfl (w.heap.size + 1) (by rfl) 45 _ _ HSD.out.mon Tryd.underlying45 rfl (by kernel_rfl) ?_) | (refine wpList_store_blk (by rfl) 45 (.tmp 4) (.tmp 85) rfl w.heap.size _ (by rfl) (by rfl) 45 _ (HRES.out _ HSD.out.only) (by kernel_rfl) (by rfl) (mon_one _) ?_))
      refine bodyPost_ret (results_cell_row rfl _ _ w.heap.size 45 _ (0, 0) _ (by rfl) ((HRES.out _ HSD.out.only).setRow_ _) Tryd.underlying45 rfl (by kernel_rfl)) rfl ?_
      refine ⟨_, ?_, rfl, ((HSD.out.mrd.only (only_setRow _ w.heap.size _) (fun k _ hk e => by have := HWS.out; omega)).mono (fun k _ hk => by have := HWS.out; omega)), below_setRow (HFIN.out _ HSD.out.only) (Nat.le_refl _) _⟩
      rw [HT.out]
      have hlz := Hlz.out
      subst hlz
      have hs1 := Hs1.out
      subst hs1
      have had := Had.out
      subst had
      have hs2 := Hs2.out
      subst hs2
      have hasq := Hasq.out
      subst hasq
      have hs3 := Hs3.out
      subst hs3
      have hid := Hid.out
      subst hid
      have hs4 := Hs4.out
      subst hs4
      have htm := Htm.out
      subst htm
      have hs5 := Hs5.out
      subst hs5
      have hlz2 := Hlz2.out
      subst hlz2
      have hs6 := Hs6.out
      subst hs6
      have hrs := Hrs.out
      subst hrs
      have hs7 := Hs7.out
      subst hs7
      have hlf := Hlf.out
      subst hlf
      have hcame := Hcame.out
      subst hcame
      have hsE := HsE.out
      subst hsE
      rfl
    by_cases h3 : kind = 3
    · subst h3
      obtain ⟨lz3, hlz3⟩ : ∃ lz3, rdB 12 s6 = lz3 := ⟨_, rfl⟩
      obtain ⟨s7, hs7⟩ : ∃ s7, rdS 12 s6 = s7 := ⟨_, rfl⟩
      have Hlz3 := Lib.hid hlz3
      have Hs7 := Lib.hid hs7
      have HC := Lib.hid (rq_bytes_eq HS8.out 12 hlz3 hs7)
      clear hlz3 hs7
      go_wp2_with fail
      refine HC.out.mono ?_
      rintro e w9 ⟨Aw9, cw9, rfl, ow9, hs, hlw9⟩
      have HS9 := Lib.hid hs
      clear hs HC
      obtain ⟨ow, how⟩ : ∃ ow, ofBe (rdB 4 s7) = ow := ⟨_, rfl⟩
      obtain ⟨s8, hs8⟩ : ∃ s8, rdS 4 s7 = s8 := ⟨_, rfl⟩
      have How := Lib.hid how
      have Hs8 := Lib.hid hs8
      have HC := Lib.hid (rq_num_eq HS9.out 4 (by omega) (by omega) how hs8)
      have hmow : ((ow : Nat) : Int) % 4294967296 = ((ow : Nat) : Int) := by have := ofBe_lt4 s7; rw [how] at this; omega
      clear how hs8
      go_wp2_with fail
      refine HC.out.mono ?_
      rintro e w10 ⟨rfl, hs⟩
      have HSa := Lib.hid hs
      clear hs HC
      obtain ⟨q0, q1, q2, q3, q4, q5, q6, q7, q8, q9⟩ := blk10 HSa.out.mon
      dsimp only [mon0, List.length_nil] at q0 q1 q2 q3 q4 q5 q6 q7 q8 q9
      have z6 := HSa.out.mon.frozen 6
      have HSb := Lib.hid (HSa.out.set_own ow)
      obtain ⟨lz4, hlz4⟩ : ∃ lz4, rdB 4 s8 = lz4 := ⟨_, rfl⟩
      obtain ⟨s9, hs9⟩ : ∃ s9, rdS 4 s8 = s9 := ⟨_, rfl⟩
      have Hlz4 := Lib.hid hlz4
      have Hs9 := Lib.hid hs9
      have HC := Lib.hid (rq_bytes_eq HSb.out 4 hlz4 hs9)
      clear hlz4 hs9
      go_wp2_with fail
      refine HC.out.mono ?_
      rintro e w11 ⟨Aw11, cw11, rfl, ow11, hs, hlw11⟩
      have HSc := Lib.hid hs
      clear hs HC
      clear q0 q1 q2 q3 q4 q5 q6 q7 q8 q9 z6 ow9 ow11
      have HL9 := Lib.hid (show Calls Tryd.prog 75 #[.pointer (some ⟨w2.heap.size, 0, none⟩)] w11 (fun e w' => e = .returned (.int .i64 (rdL s9)) ∧ w11 = w') from rleft_any HSc.out.rd)
      by_cases h19 : 19 ≤ rdL s9
      · have hbad : s9.bad = false := by
          cases hb : s9.bad with
          | false => rfl
          | true => simp [rdL, leftN, hb] at h19
        have hlen : rdL s9 = s9.bs.length := by simp [rdL, leftN, hbad]
        have h19' : ¬ ((rdL s9 : Nat) : Int) < 19 := by omega
        obtain ⟨Ar, cr, hbr, hlr, hcr, -, hrr⟩ := HSc.out.rd.ex
        have hq0 := hbr.cell 0
        simp at hq0
        have hl2 : ((s9.bs.drop 16).take 2).length = 2 := by simp; omega
        have hrc : Reads w11 (fun _ => True) (cutA Ar cr 16) (((s9.bs.drop 16).take 2).map vb) := by
          have h := (hrr.cut (c := cr) (by simpa using hlr) 16).take 2
          rw [← List.map_drop, ← List.map_take] at h
          exact h.mono (fun _ _ _ => trivial)
        have HGT := rget_ok (cutA Ar cr 16) (cr - 16) _ _ w11 (by rw [hl2]; omega) hrc
        rw [hl2] at HGT
        have HGT := Lib.hid HGT
        obtain ⟨nn, hnn⟩ : ∃ nn, ofBe ((s9.bs.drop 16).take 2) = nn := ⟨_, rfl⟩
        rw [hnn] at HGT
        have HNN := Lib.hid hnn
        have hB : rOneB s9 = rdB nn s9 := by unfold rOneB; rw [if_pos h19, hnn]
        have hS : rOneS s9 = rdS nn s9 := by unfold rOneS; rw [if_pos h19, hnn]
        have HB9 := Lib.hid hB
        have HS9' := Lib.hid hS
        have hcr18 : 18 ≤ cr := by omega
        obtain ⟨ln, hln⟩ : ∃ ln, s9.bs.length = ln := ⟨_, rfl⟩
        rw [hln] at hq0
        rw [hlen] at HL9
        rw [hln] at HL9
        have hl19 : ¬ ((ln : Nat) : Int) < 19 := by omega
        clear hbad hlen h19 h19' hbr hlr hcr hrr hl2 hrc hnn hB hS hln
        go_wp2_with fail
        refine HL9.out.mono ?_
        rintro e wq ⟨rfl, rfl⟩
        go_wp2_with (refine wpList_cut_mid (by rfl) 25 5 (.tmp 73) (.const (.int .i64 16)) (.const (.int .i64 18)) rfl Tryd.underlying25 hsz Ar ln cr 16 18 16 18 (by rfl) (by rfl) (by rfl) rfl rfl (by omega) hcr18 ?_)
        refine HGT.out.mono ?_
        rintro e wq ⟨rfl, rfl⟩
        obtain ⟨snt, hsnt⟩ : ∃ snt, rdB nn s9 = snt := ⟨_, rfl⟩
        obtain ⟨s10, hs10⟩ : ∃ s10, rdS nn s9 = s10 := ⟨_, rfl⟩
        have Hsnt := Lib.hid hsnt
        have Hs10 := Lib.hid hs10
        have HC := Lib.hid (rq_bytes_eq HSc.out nn hsnt hs10)
        clear hsnt hs10
        go_wp2_with fail
        refine HC.out.mono ?_
        rintro e w12 ⟨Aw12, cw12, rfl, ow12, hs, hlw12⟩
        have HSd := Lib.hid hs
        clear hs HC
        obtain ⟨q0, q1, q2, q3, q4, q5, q6, q7, q8, q9⟩ := blk10 HSd.out.mon
        dsimp only [mon0, List.length_nil] at q0 q1 q2 q3 q4 q5 q6 q7 q8 q9
        have z7 := HSd.out.mon.frozen 7
        have HSe := Lib.hid (HSd.out.set_sent ow12 (HSc.out.only.size) hlw12)
        clear ow12 hlw12
        have HLF := Lib.hid (rleft_any HSe.out.rd)
        obtain ⟨lf, hlf⟩ : ∃ lf, rdL s10 = lf := ⟨_, rfl⟩
        have Hlf := Lib.hid hlf
        have HLF2 := Lib.hid (show Calls Tryd.prog 75 #[.pointer (some ⟨w2.heap.size, 0, none⟩)] _ (fun e w' => e = .returned (.int .i64 lf) ∧ _ = w') from by have h := HLF.out; rw [show leftN s10.bs s10.bad = lf from hlf] at h; exact h)
        clear hlf HLF
        go_wp2_with fail
        refine HLF2.out.mono ?_
        rintro e wL ⟨rfl, rfl⟩
        obtain ⟨came, hcame⟩ : ∃ came, rdB lf s10 = came := ⟨_, rfl⟩
        obtain ⟨sE, hsE⟩ : ∃ sE, rdS lf s10 = sE := ⟨_, rfl⟩
        have Hcame := Lib.hid hcame
        have HsE := Lib.hid hsE
        have HC := Lib.hid (rq_bytes_eq HSe.out lf hcame hsE)
        clear hcame hsE
        go_wp2_with fail
        refine HC.out.mono ?_
        rintro e w13 ⟨Aw13, cw13, rfl, ow13, hs, hlw13⟩
        have HSC := Lib.hid hs
        clear hs HC
        obtain ⟨q0, q1, q2, q3, q4, q5, q6, q7, q8, q9⟩ := blk10 HSC.out.mon
        dsimp only [mon0, List.length_nil] at q0 q1 q2 q3 q4 q5 q6 q7 q8 q9
        have z8 := HSC.out.mon.frozen 8
        have HSD := Lib.hid (HSC.out.set_came ow13 (HSe.out.only.size) hlw13)
        clear ow13 hlw13
        go_wp2_with (first | (refine wpList_load_blk (by rfl) 45 (.tmp 5) rfl (w.heap.size + 1) (by rfl) 45 _ _ HSD.out.mon Tryd.underlying45 rfl (by kernel_rfl) ?_) | (refine wpList_store_blk (by rfl) 45 (.tmp 4) (.tmp 85) rfl w.heap.size _ (by rfl) (by rfl) 45 _ (HRES.out _ HSD.out.only) (by kernel_rfl) (by rfl) (mon_one _) ?_))
        refine bodyPost_ret (results_cell_row rfl _ _ w.heap.size 45 _ (0, 0) _ (by rfl) ((HRES.out _ HSD.out.only).setRow_ _) Tryd.underlying45 rfl (by kernel_rfl)) rfl ?_
        refine ⟨_, ?_, rfl, ((HSD.out.mrd.only (only_setRow _ w.heap.size _) (fun k _ hk e => by have := HWS.out; omega)).mono (fun k _ hk => by have := HWS.out; omega)), below_setRow (HFIN.out _ HSD.out.only) (Nat.le_refl _) _⟩
        rw [HT.out]
        have hlz := Hlz.out
        subst hlz
        have hs1 := Hs1.out
        subst hs1
        have had := Had.out
        subst had
        have hs2 := Hs2.out
        subst hs2
        have hasq := Hasq.out
        subst hasq
        have hs3 := Hs3.out
        subst hs3
        have hid := Hid.out
        subst hid
        have hs4 := Hs4.out
        subst hs4
        have htm := Htm.out
        subst htm
        have hs5 := Hs5.out
        subst hs5
        have hlz2 := Hlz2.out
        subst hlz2
        have hs6 := Hs6.out
        subst hs6
        have hlz3 := Hlz3.out
        subst hlz3
        have hs7 := Hs7.out
        subst hs7
        have how := How.out
        subst how
        have hs8 := Hs8.out
        subst hs8
        have hlz4 := Hlz4.out
        subst hlz4
        have hs9 := Hs9.out
        subst hs9
        have hsnt := Hsnt.out
        subst hsnt
        have hs10 := Hs10.out
        subst hs10
        have hlf := Hlf.out
        subst hlf
        have hcame := Hcame.out
        subst hcame
        have hsE := HsE.out
        subst hsE
        have hB := HB9.out
        have hS := HS9'.out
        unfold readP
        simp only [show ¬ (3 : Int) = 2 by decide, if_false, if_true]
        rw [hB, hS]
        rfl
      · have hl19 : ((rdL s9 : Nat) : Int) < 19 := by omega
        have hB : rOneB s9 = [] := by unfold rOneB; rw [if_neg h19]
        have hS : rOneS s9 = s9 := by unfold rOneS; rw [if_neg h19]
        have HB9 := Lib.hid hB
        have HS9' := Lib.hid hS
        obtain ⟨lq, hlq⟩ : ∃ lq, rdL s9 = lq := ⟨_, rfl⟩
        rw [hlq] at HL9 hl19
        clear hB hS h19 hlq
        go_wp2_with fail
        refine HL9.out.mono ?_
        rintro e wq ⟨rfl, rfl⟩
        have HLF := Lib.hid (rleft_any HSc.out.rd)
        obtain ⟨lf, hlf⟩ : ∃ lf, rdL s9 = lf := ⟨_, rfl⟩
        have Hlf := Lib.hid hlf
        have HLF2 := Lib.hid (show Calls Tryd.prog 75 #[.pointer (some ⟨w2.heap.size, 0, none⟩)] _ (fun e w' => e = .returned (.int .i64 lf) ∧ _ = w') from by have h := HLF.out; rw [show leftN s9.bs s9.bad = lf from hlf] at h; exact h)
        clear hlf HLF
        go_wp2_with fail
        refine HLF2.out.mono ?_
        rintro e wL ⟨rfl, rfl⟩
        obtain ⟨came, hcame⟩ : ∃ came, rdB lf s9 = came := ⟨_, rfl⟩
        obtain ⟨sE, hsE⟩ : ∃ sE, rdS lf s9 = sE := ⟨_, rfl⟩
        have Hcame := Lib.hid hcame
        have HsE := Lib.hid hsE
        have HC := Lib.hid (rq_bytes_eq HSc.out lf hcame hsE)
        clear hcame hsE
        go_wp2_with fail
        refine HC.out.mono ?_
        rintro e w13 ⟨Aw13, cw13, rfl, ow13, hs, hlw13⟩
        have HSC := Lib.hid hs
        clear hs HC
        obtain ⟨q0, q1, q2, q3, q4, q5, q6, q7, q8, q9⟩ := blk10 HSC.out.mon
        dsimp only [mon0, List.length_nil] at q0 q1 q2 q3 q4 q5 q6 q7 q8 q9
        have z8 := HSC.out.mon.frozen 8
        have HSD := Lib.hid (HSC.out.set_came ow13 (HSc.out.only.size) hlw13)
        clear ow13 hlw13
        go_wp2_with (first | (refine wpList_load_blk (by rfl) 45 (.tmp 5) rfl (w.heap.size + 1) (by rfl) 45 _ _ HSD.out.mon Tryd.underlying45 rfl (by kernel_rfl) ?_) | (refine wpList_store_blk (by rfl) 45 (.tmp 4) (.tmp 85) rfl w.heap.size _ (by rfl) (by rfl) 45 _ (HRES.out _ HSD.out.only) (by kernel_rfl) (by rfl) (mon_one _) ?_))
        refine bodyPost_ret (results_cell_row rfl _ _ w.heap.size 45 _ (0, 0) _ (by rfl) ((HRES.out _ HSD.out.only).setRow_ _) Tryd.underlying45 rfl (by kernel_rfl)) rfl ?_
        refine ⟨_, ?_, rfl, ((HSD.out.mrd.only (only_setRow _ w.heap.size _) (fun k _ hk e => by have := HWS.out; omega)).mono (fun k _ hk => by have := HWS.out; omega)), below_setRow (HFIN.out _ HSD.out.only) (Nat.le_refl _) _⟩
        rw [HT.out]
        have hlz := Hlz.out
        subst hlz
        have hs1 := Hs1.out
        subst hs1
        have had := Had.out
        subst had
        have hs2 := Hs2.out
        subst hs2
        have hasq := Hasq.out
        subst hasq
        have hs3 := Hs3.out
        subst hs3
        have hid := Hid.out
        subst hid
        have hs4 := Hs4.out
        subst hs4
        have htm := Htm.out
        subst htm
        have hs5 := Hs5.out
        subst hs5
        have hlz2 := Hlz2.out
        subst hlz2
        have hs6 := Hs6.out
        subst hs6
        have hlz3 := Hlz3.out
        subst hlz3
        have hs7 := Hs7.out
        subst hs7
        have how := How.out
        subst how
        have hs8 := Hs8.out
        subst hs8
        have hlz4 := Hlz4.out
        subst hlz4
        have hs9 := Hs9.out
        subst hs9
        have hlf := Hlf.out
        subst hlf
        have hcame := Hcame.out
        subst hcame
        have hsE := HsE.out
        subst hsE
        have hB := HB9.out
        have hS := HS9'.out
        unfold readP
        simp only [show ¬ (3 : Int) = 2 by decide, if_false, if_true]
        rw [hB, hS]
        rfl
    · have zk2 : (kind == 2) = false := by simp [h2]
      have zk3 : (kind == 3) = false := by simp [h3]
      have HLF := Lib.hid (rleft_any HS8.out.rd)
      obtain ⟨lf, hlf⟩ : ∃ lf, rdL s6 = lf := ⟨_, rfl⟩
      have Hlf := Lib.hid hlf
      have HLF2 := Lib.hid (show Calls Tryd.prog 75 #[.pointer (some ⟨w2.heap.size, 0, none⟩)] _ (fun e w' => e = .returned (.int .i64 lf) ∧ _ = w') from by have h := HLF.out; rw [show leftN s6.bs s6.bad = lf from hlf] at h; exact h)
      clear hlf HLF
      go_wp2_with fail
      refine HLF2.out.mono ?_
      rintro e wL ⟨rfl, rfl⟩
      obtain ⟨came, hcame⟩ : ∃ came, rdB lf s6 = came := ⟨_, rfl⟩
      obtain ⟨sE, hsE⟩ : ∃ sE, rdS lf s6 = sE := ⟨_, rfl⟩
      have Hcame := Lib.hid hcame
      have HsE := Lib.hid hsE
      have HC := Lib.hid (rq_bytes_eq HS8.out lf hcame hsE)
      clear hcame hsE
      go_wp2_with fail
      refine HC.out.mono ?_
      rintro e w9 ⟨Aw9, cw9, rfl, ow9, hs, hlw9⟩
      have HSC := Lib.hid hs
      clear hs HC
      obtain ⟨q0, q1, q2, q3, q4, q5, q6, q7, q8, q9⟩ := blk10 HSC.out.mon
      dsimp only [mon0, List.length_nil] at q0 q1 q2 q3 q4 q5 q6 q7 q8 q9
      have z8 := HSC.out.mon.frozen 8
      have HSD := Lib.hid (HSC.out.set_came ow9 (HS8.out.only.size) hlw9)
      clear ow9 hlw9
      go_wp2_with (first | (refine wpList_load_blk (by rfl) 45 (.tmp 5) rfl (w.heap.size + 1) (by rfl) 45 _ _ HSD.out.mon Tryd.underlying45 rfl (by kernel_rfl) ?_) | (refine wpList_store_blk (by rfl) 45 (.tmp 4) (.tmp 85) rfl w.heap.size _ (by rfl) (by rfl) 45 _ (HRES.out _ HSD.out.only) (by kernel_rfl) (by rfl) (mon_one _) ?_))
      refine bodyPost_ret (results_cell_row rfl _ _ w.heap.size 45 _ (0, 0) _ (by rfl) ((HRES.out _ HSD.out.only).setRow_ _) Tryd.underlying45 rfl (by kernel_rfl)) rfl ?_
      refine ⟨_, ?_, rfl, ((HSD.out.mrd.only (only_setRow _ w.heap.size _) (fun k _ hk e => by have := HWS.out; omega)).mono (fun k _ hk => by have := HWS.out; omega)), below_setRow (HFIN.out _ HSD.out.only) (Nat.le_refl _) _⟩
      rw [HT.out]
      have hlz := Hlz.out
      subst hlz
      have hs1 := Hs1.out
      subst hs1
      have had := Had.out
      subst had
      have hs2 := Hs2.out
      subst hs2
      have hasq := Hasq.out
      subst hasq
      have hs3 := Hs3.out
      subst hs3
      have hid := Hid.out
      subst hid
      have hs4 := Hs4.out
      subst hs4
      have htm := Htm.out
      subst htm
      have hs5 := Hs5.out
      subst hs5
      have hlz2 := Hlz2.out
      subst hlz2
      have hs6 := Hs6.out
      subst hs6
      have hlf := Hlf.out
      subst hlf
      have hcame := Hcame.out
      subst hcame
      have hsE := HsE.out
      subst hsE
      unfold readP
      simp only [if_neg h2, if_neg h3]
      rfl
end Go.Proofs.YtbmbpcibihddaaaDoor
