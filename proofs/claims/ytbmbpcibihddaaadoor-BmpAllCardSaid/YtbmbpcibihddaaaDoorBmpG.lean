/-
  What is monitored: the codec goes over the parts, and reads. No condition but that bytes read as data.
-/
import Derived.Test.YtbmbpcibihddaaaDoorBmpD
namespace Go.Proofs.YtbmbpcibihddaaaDoor
open Go.ChangeShapes Go.WideShapes Go.ChangeAt Go.RowKit

/-- on the way: what is read so far, what is left -/
structure RW (W w : World) (cb rb mb : Nat) (F : Nat → Prop) (m : MoV) (s : RS) : Prop where
  cr : CR w cb rb F s
  mon : Blk w mb 45 m.cells
  only : Only (fun k => k = mb ∨ k = rb) W w
  rd : m.Rd w (fun k => W.heap.size ≤ k)
  mbl : mb < W.heap.size
  rbl : rb < W.heap.size
  nf : ¬ F mb
  len : s.bs.length ≤ 1000000
section
variable {W w w' : World} {cb rb mb : Nat} {F : Nat → Prop} {m m' : MoV} {s s' : RS}
theorem RW.ncb (h : RW W w cb rb mb F m s) : mb ≠ cb := Blk.ne_ h.mon h.cr.blk (by decide)
theorem RW.nrb (h : RW W w cb rb mb F m s) : mb ≠ rb := by
  obtain ⟨A, c, hb, -⟩ := h.cr.rd.ex
  exact Blk.ne_ h.mon hb (by decide)
theorem RW.step (h : RW W w cb rb mb F m s) (hm : Blk w' mb 45 m'.cells) (hc : CR w' cb rb F s') (ho : Only (fun k => k = mb ∨ k = rb) w w') (hl : s'.bs.length ≤ s.bs.length) (hr : m'.Rd w' (fun k => W.heap.size ≤ k)) : RW W w' cb rb mb F m' s' :=
  ⟨hc, hm, h.only.trans ho (fun _ _ h => h), hr, h.mbl, h.rbl, h.nf, Nat.le_trans hl h.len⟩
theorem RW.rdo (h : RW W w cb rb mb F m s) (ho : Only (fun k => k = mb ∨ k = rb) w w') : m.Rd w' (fun k => W.heap.size ≤ k) :=
  h.rd.only ho (fun _ _ hb e => by have := h.mbl; have := h.rbl; omega)
theorem RW.below (h : RW W w cb rb mb F m s) (hb : Below w.heap.size w w') : RW W w' cb rb mb F m s :=
  ⟨h.cr.below hb, h.mon.below hb h.mon.lt, h.only.trans (Only.of_below (S := fun _ => False) hb) (fun _ _ h => h.elim), h.rd.below hb (fun _ hl _ => hl), h.mbl, h.rbl, h.nf, h.len⟩
theorem rw_zeros (h : RW W w cb rb mb F m s) (n : Nat) (hn : n ≤ 1000) :
    Calls Tryd.prog 68 #[.pointer (some ⟨cb, 0, none⟩), .int .i64 n] w fun e w' => e = .returned (.tuple #[]) ∧ RW W w' cb rb mb F m (rdS n s) :=
  (zeros_r h.cr n hn h.len).mono fun _ _ ⟨he, hc, ho⟩ => by
    have ho2 := ho.mono (T := fun k => k = mb ∨ k = rb) (fun _ _ h => .inr h)
    exact ⟨he, h.step (h.mon.only ho h.nrb) hc ho2 (rdS_len _ _) (h.rdo ho2)⟩
theorem rw_addr (h : RW W w cb rb mb F m s) (h0 : m.addr = 0) :
    Calls Tryd.prog 69 #[.pointer (some ⟨cb, 0, none⟩), .pointer (some ⟨mb, 2, none⟩)] w fun e w' => e = .returned (.tuple #[]) ∧ RW W w' cb rb mb F { m with addr := ofBe (rdB 4 s) } (rdS 4 s) :=
  (word_r h.cr mb 2 _ _ h.mon (by rw [show m.cells[2]? = some (.int .u32 m.addr) from rfl, h0]; rfl) h.ncb h.nrb h.nf h.len).mono fun _ _ ⟨he, hm, hc, ho⟩ =>
    ⟨he, h.step (m' := { m with addr := ofBe (rdB 4 s) }) hm hc ho (rdS_len _ _) (let r := h.rdo ho; ⟨r.s, r.c, r.sl, r.cl, r.sk, r.ck, r.tl⟩)⟩
theorem rw_id (h : RW W w cb rb mb F m s) (h0 : m.id = 0) :
    Calls Tryd.prog 69 #[.pointer (some ⟨cb, 0, none⟩), .pointer (some ⟨mb, 1, none⟩)] w fun e w' => e = .returned (.tuple #[]) ∧ RW W w' cb rb mb F { m with id := ofBe (rdB 4 s) } (rdS 4 s) :=
  (word_r h.cr mb 1 _ _ h.mon (by rw [show m.cells[1]? = some (.int .u32 m.id) from rfl, h0]; rfl) h.ncb h.nrb h.nf h.len).mono fun _ _ ⟨he, hm, hc, ho⟩ =>
    ⟨he, h.step (m' := { m with id := ofBe (rdB 4 s) }) hm hc ho (rdS_len _ _) (let r := h.rdo ho; ⟨r.s, r.c, r.sl, r.cl, r.sk, r.ck, r.tl⟩)⟩
theorem rw_own (h : RW W w cb rb mb F m s) (h0 : m.own = 0) :
    Calls Tryd.prog 69 #[.pointer (some ⟨cb, 0, none⟩), .pointer (some ⟨mb, 6, none⟩)] w fun e w' => e = .returned (.tuple #[]) ∧ RW W w' cb rb mb F { m with own := ofBe (rdB 4 s) } (rdS 4 s) :=
  (word_r h.cr mb 6 _ _ h.mon (by rw [show m.cells[6]? = some (.int .u32 m.own) from rfl, h0]; rfl) h.ncb h.nrb h.nf h.len).mono fun _ _ ⟨he, hm, hc, ho⟩ =>
    ⟨he, h.step (m' := { m with own := ofBe (rdB 4 s) }) hm hc ho (rdS_len _ _) (let r := h.rdo ho; ⟨r.s, r.c, r.sl, r.cl, r.sk, r.ck, r.tl⟩)⟩
theorem rw_asn (h : RW W w cb rb mb F m s) :
    Calls Tryd.prog 44 #[.pointer (some ⟨cb, 0, none⟩), .pointer (some ⟨mb, 3, none⟩), .int .i64 4] w fun e w' => e = .returned (.tuple #[]) ∧ RW W w' cb rb mb F { m with asn := ofBe (rdB 4 s) } (rdS 4 s) :=
  (cnum4_r h.cr mb 3 _ _ _ h.mon rfl h.ncb h.nrb h.nf h.len).mono fun _ _ ⟨he, hm, hc, ho⟩ =>
    ⟨he, h.step (m' := { m with asn := ofBe (rdB 4 s) }) hm hc ho (rdS_len _ _) (let r := h.rdo ho; ⟨r.s, r.c, r.sl, r.cl, r.sk, r.ck, r.tl⟩)⟩
theorem rw_time (h : RW W w cb rb mb F m s) :
    Calls Tryd.prog 44 #[.pointer (some ⟨cb, 0, none⟩), .pointer (some ⟨mb, 4, none⟩), .int .i64 4] w fun e w' => e = .returned (.tuple #[]) ∧ RW W w' cb rb mb F { m with time := ofBe (rdB 4 s) } (rdS 4 s) :=
  (cnum4_r h.cr mb 4 _ _ _ h.mon rfl h.ncb h.nrb h.nf h.len).mono fun _ _ ⟨he, hm, hc, ho⟩ =>
    ⟨he, h.step (m' := { m with time := ofBe (rdB 4 s) }) hm hc ho (rdS_len _ _) (let r := h.rdo ho; ⟨r.s, r.c, r.sl, r.cl, r.sk, r.ck, r.tl⟩)⟩
theorem rw_reason (h : RW W w cb rb mb F m s) :
    Calls Tryd.prog 44 #[.pointer (some ⟨cb, 0, none⟩), .pointer (some ⟨mb, 5, none⟩), .int .i64 1] w fun e w' => e = .returned (.tuple #[]) ∧ RW W w' cb rb mb F { m with reason := ofBe (rdB 1 s) } (rdS 1 s) :=
  (cnum1_r h.cr mb 5 _ _ _ h.mon rfl h.ncb h.nrb h.nf h.len).mono fun _ _ ⟨he, hm, hc, ho⟩ =>
    ⟨he, h.step (m' := { m with reason := ofBe (rdB 1 s) }) hm hc ho (rdS_len _ _) (let r := h.rdo ho; ⟨r.s, r.c, r.sl, r.cl, r.sk, r.ck, r.tl⟩)⟩
/-- a number in a cell of the caller's -/
theorem rw_skip (h : RW W w cb rb mb F m s) (g : Nat) (t : TypeId) (u : Value) (hG : Blk w g t #[u]) (hg : W.heap.size ≤ g) (hgc : g ≠ cb) (hgF : ¬ F g) (h1 : m.sent = []) (h2 : m.came = []) :
    Calls Tryd.prog 44 #[.pointer (some ⟨cb, 0, none⟩), .pointer (some ⟨g, 0, none⟩), .int .i64 4] w fun e w' => e = .returned (.tuple #[]) ∧ RW W w' cb rb mb F m (rdS 4 s) :=
  (cnum4_r h.cr g 0 _ _ u hG rfl hgc (by have := h.rbl; omega) hgF h.len).mono fun _ _ ⟨he, _, hc, ho⟩ =>
    ⟨he, hc, h.mon.only ho (fun e => e.elim (fun e => by have := h.mbl; omega) h.nrb), h.only.trans ho (fun k hk e => e.elim (fun e => by omega) .inr), ⟨by rw [h1]; exact .nil, by rw [h2]; exact .nil, h.rd.sl, h.rd.cl, h.rd.sk, h.rd.ck, h.rd.tl⟩, h.mbl, h.rbl, h.nf, Nat.le_trans (rdS_len _ _) h.len⟩
theorem rw_text (h : RW W w cb rb mb F m s) (h0 : m.text = []) :
    Calls Tryd.prog 67 #[.pointer (some ⟨cb, 0, none⟩), .pointer (some ⟨mb, 9, none⟩)] w fun e w' => e = .returned (.tuple #[]) ∧ Blk w' mb 45 ({ m with text := rdB (ofBe (rdB 4 s) : Nat) (rdS 4 s) } : MoV).cells ∧ ({ m with text := rdB (ofBe (rdB 4 s) : Nat) (rdS 4 s) } : MoV).Rd w' (fun k => W.heap.size ≤ k) ∧ Only (fun k => k = mb ∨ k = rb) W w' :=
  (text_r h.cr mb 9 _ _ h.mon (by rw [show m.cells[9]? = some (.string (str m.text)) from rfl, h0]) h.nrb h.len).mono fun _ _ ⟨he, hm, ho⟩ =>
    ⟨he, hm, (let r := h.rdo ho; ⟨r.s, r.c, r.sl, r.cl, r.sk, r.ck, by have h1 := rdB_len (ofBe (rdB 4 s) : Nat) (rdS 4 s); have h2 := rdS_len 4 s; have := h.len; show (rdB (ofBe (rdB 4 s) : Nat) (rdS 4 s)).length ≤ _; omega⟩), h.only.trans ho (fun _ _ h => h)⟩
theorem oneB_len (s : RS) : (oneB s).length ≤ 2 * s.bs.length := by
  unfold oneB
  split
  · simp
  · rw [List.length_append]
    have h1 := rdB_len 19 s
    have h2 := rdB_len ((ofBe (((rdB 19 s).drop 16).take 2) : Nat) - 19 : Int) (rdS 19 s)
    have h3 := rdS_len 19 s
    omega
theorem oneS_len (s : RS) : (oneS s).bs.length ≤ s.bs.length := by
  unfold oneS
  split
  · exact rdS_len _ _
  · exact Nat.le_trans (rdS_len _ _) (rdS_len _ _)
theorem rw_one (h : RW W w cb rb mb F m s) (h0 : m.sA = none ∧ m.sc = 0 ∧ m.sent = []) :
    Calls Tryd.prog 70 #[.pointer (some ⟨cb, 0, none⟩), .pointer (some ⟨mb, 7, none⟩)] w fun e w' => e = .returned (.tuple #[]) ∧ ∃ A c, RW W w' cb rb mb F { m with sA := A, sc := c, sent := oneB s } (oneS s) :=
  (one_r h.cr mb 7 _ _ h.mon (by rw [show m.cells[7]? = some (.slice m.sA m.sent.length m.sc) from rfl, h0.1, h0.2.1, h0.2.2]; rfl) h.ncb h.nrb h.nf h.len).mono fun _ _ ⟨he, A, c, hm, hown, hc, ho⟩ => by
    obtain ⟨A', c', hv, h1, h2, -, h3⟩ := own_reads hown
    injection hv with e1 e2 e3
    subst e1 e3
    have hb := oneB_len s
    have := h.len
    exact ⟨he, A, c, h.step (m' := { m with sA := A, sc := c, sent := oneB s }) hm hc ho (oneS_len _) (let r := h.rdo ho; ⟨h3.mono (fun k _ hk => Nat.le_trans h.only.size hk.1), r.c, by show (oneB s).length ≤ _; omega, r.cl, h1, r.ck, r.tl⟩)⟩
theorem rw_rest (h : RW W w cb rb mb F m s) :
    Calls Tryd.prog 71 #[.pointer (some ⟨cb, 0, none⟩), .pointer (some ⟨mb, 8, none⟩)] w fun e w' => e = .returned (.tuple #[]) ∧ ∃ A c, RW W w' cb rb mb F { m with cA := A, cc := c, came := rdB (rdL s) s } (rdS (rdL s) s) :=
  (rest_r h.cr mb 8 _ _ _ h.mon rfl h.ncb h.nrb h.nf h.len).mono fun _ _ ⟨he, A, c, hm, hown, hc, ho⟩ => by
    obtain ⟨A', c', hv, h1, h2, -, h3⟩ := own_reads hown
    injection hv with e1 e2 e3
    subst e1 e3
    have hb := rdB_len (rdL s) s
    have := h.len
    exact ⟨he, A, c, h.step (m' := { m with cA := A, cc := c, came := rdB (rdL s) s }) hm hc ho (rdS_len _ _) (let r := h.rdo ho; ⟨r.s, h3.mono (fun k _ hk => Nat.le_trans h.only.size hk.1), r.sl, by show (rdB (rdL s) s).length ≤ _; omega, r.sk, h1, r.tl⟩)⟩
/-- with nothing but a kind -/
def mon0 (kind : Int) : MoV := ⟨kind, 0, 0, 0, 0, 0, 0, none, 0, [], none, 0, [], []⟩
/-- what a walk that reads leaves -/
structure ReadEnd (W w' : World) (rb mb : Nat) (d : MD) : Prop where
  ex : ∃ m : MoV, m.d = d ∧ Blk w' mb 45 m.cells ∧ m.Rd w' (fun k => W.heap.size ≤ k)
  only : Only (fun k => k = mb ∨ k = rb) W w'
set_option maxRecDepth 20000 in
set_option maxHeartbeats 8000000 in
theorem walk_r (kind : Int) (bs : List UInt8) (h : RW W W cb rb mb F (mon0 kind) ⟨bs, false⟩) :
    Calls Tryd.prog 43 #[.pointer (some ⟨cb, 0, none⟩), .pointer (some ⟨mb, 0, none⟩)] W fun e w' => e = .returned (.tuple #[]) ∧ ReadEnd W w' rb mb (read1 kind bs) := by
  have hk0 : W.cell? ⟨mb, 0, none⟩ = some (.int .i64 kind) := by rw [h.mon.cell]; rfl
  have HK := Lib.hid (talks_any kind W)
  cases ht : talksB kind with
  | true =>
    have hb : read1 kind bs = readT kind (ofBe (rdB 4 ⟨bs, false⟩)) (rdS 4 ⟨bs, false⟩) := by unfold read1; rw [if_pos ht]
    have HT := Lib.hid (rw_text h rfl)
    rw [ht] at HK
    rw [hb]
    clear h hb ht
    go_enter Tryd.func43, Tryd.ntmps43
    go_wp2_with fail
    refine HK.out.mono ?_
    rintro e w1 ⟨rfl, rfl⟩
    go_wp2_with fail
    refine HT.out.mono ?_
    rintro e w2 ⟨rfl, hm, hr, ho⟩
    go_wp2_with fail
    first | refine bodyPost_ret (results_none rfl _ _ _) rfl ?_ | refine bodyPost_end (results_none rfl _ _ _) rfl ?_
    exact ⟨rfl, ⟨_, rfl, hm, hr⟩, ho⟩
  | false =>
    have hb : read1 kind bs = readP kind oneB oneS ⟨bs, false⟩ := by unfold read1; rw [if_neg (by simp [ht])]
    rw [ht] at HK
    rw [hb]
    have HS := Lib.hid h
    have HC := Lib.hid h.cr.blk.lt
    have HF := Lib.hid fun (k : Nat) (hk : W.heap.size ≤ k) => h.cr.flt hk
    clear h hb ht
    go_enter Tryd.func43, Tryd.ntmps43
    go_wp2_with fail
    refine HK.out.mono ?_
    rintro e w1 ⟨rfl, rfl⟩
    clear hk0
    go_wp2_with fail
    refine (rw_zeros HS.out 22 (by omega)).mono ?_
    rintro e w2 ⟨rfl, hs⟩
    have HS2 := Lib.hid hs
    clear hs
    go_wp2_with fail
    refine (rw_addr HS2.out rfl).mono ?_
    rintro e w3 ⟨rfl, hs⟩
    have HS3 := Lib.hid hs
    clear hs
    go_wp2_with fail
    refine (rw_asn HS3.out).mono ?_
    rintro e w4 ⟨rfl, hs⟩
    have HS4 := Lib.hid hs
    clear hs
    go_wp2_with fail
    refine (rw_id HS4.out rfl).mono ?_
    rintro e w5 ⟨rfl, hs⟩
    have HS5 := Lib.hid hs
    clear hs
    go_wp2_with fail
    refine (rw_time HS5.out).mono ?_
    rintro e w6 ⟨rfl, hs⟩
    have HS6 := Lib.hid hs
    clear hs
    go_wp2_with fail
    refine (rw_zeros HS6.out 4 (by omega)).mono ?_
    rintro e w7 ⟨rfl, hs⟩
    have hk7 : w7.cell? ⟨mb, 0, none⟩ = some (.int .i64 kind) := by rw [hs.mon.cell]; rfl
    have HS7 := Lib.hid hs
    clear hs
    by_cases h2 : kind = 2
    · subst h2
      go_wp2_with fail
      refine (rw_reason HS7.out).mono ?_
      rintro e w8 ⟨rfl, hs⟩
      have HS8 := Lib.hid hs
      clear hs
      go_wp2_with fail
      refine (rw_rest HS8.out).mono ?_
      rintro e w9 ⟨rfl, A, c, hs⟩
      go_wp2_with fail
      first | refine bodyPost_ret (results_none rfl _ _ _) rfl ?_ | refine bodyPost_end (results_none rfl _ _ _) rfl ?_
      exact ⟨rfl, ⟨_, rfl, hs.mon, hs.rd⟩, hs.only⟩
    by_cases h3 : kind = 3
    · subst h3
      go_wp2_with fail
      refine (rw_zeros HS7.out 12 (by omega)).mono ?_
      rintro e w8 ⟨rfl, hs⟩
      have HS8 := Lib.hid hs
      clear hs
      go_wp2_with fail
      refine (rw_own HS8.out rfl).mono ?_
      rintro e w9 ⟨rfl, hs⟩
      have hsz := hs.only.size
      have hs10 := hs.below (below_a1 w9 (.cells #[.int .i64 11731123] 3))
      have HN10 := Lib.hid (rw_skip hs10 w9.heap.size _ _ (Blk.new w9 3 #[.int .i64 11731123]) hsz (by have := HC.out; omega) (HF.out _ hsz) rfl rfl)
      clear hs hs10
      go_wp2_with fail
      refine HN10.out.mono ?_
      rintro e w11 ⟨rfl, hs⟩
      have HS11 := Lib.hid hs
      clear hs
      go_wp2_with fail
      refine (rw_one HS11.out ⟨rfl, rfl, rfl⟩).mono ?_
      rintro e w12 ⟨rfl, A1, c1, hs⟩
      have HS12 := Lib.hid hs
      clear hs
      go_wp2_with fail
      refine (rw_rest HS12.out).mono ?_
      rintro e w13 ⟨rfl, A, c, hs⟩
      go_wp2_with fail
      first | refine bodyPost_ret (results_none rfl _ _ _) rfl ?_ | refine bodyPost_end (results_none rfl _ _ _) rfl ?_
      exact ⟨rfl, ⟨_, rfl, hs.mon, hs.rd⟩, hs.only⟩
    · go_wp2_with fail
      refine (rw_rest HS7.out).mono ?_
      rintro e w9 ⟨rfl, A, c, hs⟩
      go_wp2_with fail
      first | refine bodyPost_ret (results_none rfl _ _ _) rfl ?_ | refine bodyPost_end (results_none rfl _ _ _) rfl ?_
      refine ⟨rfl, ⟨_, ?_, hs.mon, hs.rd⟩, hs.only⟩
      unfold readP
      simp only [if_neg h2, if_neg h3]
      rfl
end
end Go.Proofs.YtbmbpcibihddaaaDoor
