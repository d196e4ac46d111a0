/-
  What is monitored: Get. No condition but that bytes read as data and the table of least lengths as it is laid.
-/
import Derived.Test.YtbmbpcibihddaaaDoorBmpJ
import Derived.Test.YtbmbpcibihddaaaDoorBmpG
namespace Go.Proofs.YtbmbpcibihddaaaDoor
open Go.ChangeShapes Go.WideShapes Go.ChangeAt Go.RowKit

theorem results_cell_tmp_tmp {P : Program} {fn : Func} {p q r : Tmp} {ty : TypeId} (h : fn.results = #[.cell p ty, .tmp q, .tmp r]) (tmps : Array Value) (w : World) (g : Nat) (t : TypeId) (cs : Array Value) (fr : Nat × Nat) (d : TypeDesc)
    (hp : tmps.getD p undef = .pointer (some ⟨g, 0, none⟩)) (hg : w.heap[g]? = some (.cells cs t fr))
    (hu : P.underlying ty = some d) (hd : (match d with | .struct _ | .array _ _ => true | _ => false) = true) (hi : (P.info? ty).map (·.size) = some cs.size) :
    (results fn tmps).run P w = .ok (.tuple #[.agg cs, tmps.getD q undef, tmps.getD r undef]) w := by
  have hp' : tmps[p]?.getD undef = .pointer (some ⟨g, 0, none⟩) := by simpa using hp
  simp [results, h, hp', asAddr, run_loadVar_row w g t ty cs fr d hg hu hd hi]
theorem nnum_eq {W : World} {F : Nat → Prop} {rb : Nat} {s s' : RS} {n : Nat} (h : RD W F 99 rb s.bs s.bad) (k : Nat) (h1 : 1 ≤ k) (h4 : k ≤ 4) (hl : s.bs.length ≤ 1000000) (hn : ofBe (rdB k s) = n) (hs : rdS k s = s') :
    Calls Tryd.prog 35 #[.pointer (some ⟨rb, 0, none⟩), .int .i64 k] W fun e w' => e = .returned (.int .i64 n) ∧ RD w' F 99 rb s'.bs s'.bad ∧ Only (· = rb) W w' := by
  subst hn hs; exact nnum_any h k h1 h4 hl
/-- what a reader of a head has read -/
theorem head_read (l : List UInt8) :
    (l.length < 6 → (rdS 1 (rdS 4 (rdS 1 ⟨l, false⟩))).bad = true) ∧
    (6 ≤ l.length → (rdS 1 (rdS 4 (rdS 1 ⟨l, false⟩))).bad = false ∧ ofBe (rdB 1 ⟨l, false⟩) = (l.getD 0 0).toNat ∧ ofBe (rdB 4 (rdS 1 ⟨l, false⟩)) = bN l ∧ ofBe (rdB 1 (rdS 4 (rdS 1 ⟨l, false⟩))) = (l.getD 5 0).toNat) := by
  constructor
  · intro h
    unfold rdS
    by_cases h1 : 1 ≤ l.length
    · by_cases h5 : 5 ≤ l.length
      · have : l.length = 5 := by omega
        simp [rdOk, this]
      · simp [rdOk, show (1 : Int) ≤ l.length by omega, show ¬ (4 : Int) ≤ ((l.length - 1 : Nat) : Int) by omega]
    · have : l.length = 0 := by omega
      simp [rdOk, this]
  · intro h
    obtain ⟨a, b, c, d, e, f, l', rfl⟩ : ∃ a b c d e f l', l = a :: b :: c :: d :: e :: f :: l' := by
      match l, h with
      | a :: b :: c :: d :: e :: f :: l', _ => exact ⟨a, b, c, d, e, f, l', rfl⟩
    have h1 : rdS 1 ⟨a :: b :: c :: d :: e :: f :: l', false⟩ = ⟨b :: c :: d :: e :: f :: l', false⟩ := rdS_app [a] _ 1 rfl
    have h2 : rdS 4 ⟨b :: c :: d :: e :: f :: l', false⟩ = ⟨f :: l', false⟩ := rdS_app [b, c, d, e] _ 4 rfl
    have h3 : rdS 1 ⟨f :: l', false⟩ = ⟨l', false⟩ := rdS_app [f] _ 1 rfl
    have g1 : rdB 1 ⟨a :: b :: c :: d :: e :: f :: l', false⟩ = [a] := rdB_app [a] _ 1 rfl
    have g2 : rdB 4 ⟨b :: c :: d :: e :: f :: l', false⟩ = [b, c, d, e] := rdB_app [b, c, d, e] _ 4 rfl
    have g3 : rdB 1 ⟨f :: l', false⟩ = [f] := rdB_app [f] _ 1 rfl
    rw [h1, h2, h3, g1, g2, g3]
    simp [ofBe, bN]
/-- what a Get leaves -/
structure BGetEnd (w : World) (l : List UInt8) (e : Ending) (w' : World) : Prop where
  no : bget l = none → e = .returned (.tuple #[.agg (mon0 0).cells, .int .i64 0, .int .i64 360])
  yes : ∀ (d : MD) (n : Nat), bget l = some (d, n) → ∃ m : MoV, m.d = d ∧ e = .returned (.tuple #[m.val, .int .i64 n, .int .i64 0]) ∧ m.Rd w' (fun k => w.heap.size ≤ k)
  bel : Below w.heap.size w w'
set_option maxRecDepth 20000 in
set_option maxHeartbeats 8000000 in
theorem bget_any (A : Option Addr) (c : Nat) (l : List UInt8) (F : Nat → Prop) (w : World) (hlc : l.length ≤ c) (hl : l.length ≤ 100000) (hr : Reads w F A (l.map vb)) (hT : LeastAt w) :
    Calls Tryd.prog 20 #[.slice A l.length c] w (BGetEnd w l) := by
  have hsz : (Tryd.prog.info? 5).map (·.size) = some 1 := by kernel_rfl
  have hz0 := Blk.new w 45 (mon0 0).cells
  have hb0 := below_a1 w (.cells (mon0 0).cells 45)
  have HFR := Lib.hid (from_any A c l F (w.alloc (.cells (mon0 0).cells 45)) (by omega) (hr.alloc _))
  have HR := Lib.hid (hr.mono (G := (· < w.heap.size)) (fun _ h _ => h))
  obtain ⟨hh1, hh2⟩ := head_read l
  have HH1 := Lib.hid hh1
  have HH2 := Lib.hid hh2
  have HT := Lib.hid hT
  have HZ0 := Lib.hid hz0
  have HB0 := Lib.hid hb0
  have HEQ := Lib.hid (show bget l = if bhd l then if (bread read1 l).ok && decide ((bread read1 l).put = l.take (bN l)) then some (bread read1 l, bN l) else none else none from rfl)
  have HBH := Lib.hid (show bhd l = (decide (6 ≤ l.length) && decide (l.getD 0 0 = 3) && decide (6 ≤ bN l) && decide (bN l ≤ l.length)) from rfl)
  clear hr hT hz0 hb0 hh1 hh2
  generalize hs1 : rdS 1 (⟨l, false⟩ : RS) = s1 at *
  generalize hs2 : rdS 4 s1 = s2 at *
  generalize hs3 : rdS 1 s2 = s3 at *
  generalize hv : ofBe (rdB 1 (⟨l, false⟩ : RS)) = v at *
  generalize hn : ofBe (rdB 4 s1) = n at *
  generalize hk : ofBe (rdB 1 s2) = kn at *
  have HS := Lib.hid (And.intro hs1 (And.intro hs2 (And.intro hs3 (And.intro hv (And.intro hn hk)))))
  clear hs1 hs2 hs3 hv hn hk
  go_enter Tryd.func20, Tryd.ntmps20
  --WALK
  go_wp2_with fail
  refine HFR.out.mono ?_
  rintro e w1 ⟨g, G, rfl, hrd, hg, hG, hb1⟩
  have HB1 := Lib.hid (HB0.out.trans (hb1.mono HB0.out.size))
  have HZ1 := Lib.hid (HZ0.out.below hb1 HZ0.out.lt)
  have hwg : w.heap.size < g := by simp at hg; omega
  have hl1 : s1.bs.length ≤ 1000000 := by rw [← HS.out.1]; exact Nat.le_trans (rdS_len _ _) (by show l.length ≤ _; omega)
  have hl2 : s2.bs.length ≤ 1000000 := by rw [← HS.out.2.1]; exact Nat.le_trans (rdS_len _ _) hl1
  have HN1 := Lib.hid (nnum_eq (s := ⟨l, false⟩) hrd 1 (by omega) (by omega) (by show l.length ≤ _; omega) HS.out.2.2.2.1 HS.out.1)
  clear hrd hg hG hb1
  go_wp2_with fail
  refine HN1.out.mono ?_
  rintro e w2 ⟨rfl, hrd, ho2⟩
  have HN2 := Lib.hid (nnum_eq hrd 4 (by omega) (by omega) hl1 HS.out.2.2.2.2.1 HS.out.2.1)
  have HZ2 := Lib.hid (HZ1.out.only ho2 (by omega))
  have HB2 := Lib.hid (HB1.out.trans (ho2.below HB1.out.size (fun k hk => by omega)))
  clear hrd ho2 HN1
  go_wp2_with fail
  refine HN2.out.mono ?_
  rintro e w3 ⟨rfl, hrd, ho3⟩
  have HN3 := Lib.hid (nnum_eq hrd 1 (by omega) (by omega) hl2 HS.out.2.2.2.2.2 HS.out.2.2.1)
  have HZ3 := Lib.hid (HZ2.out.only ho3 (by omega))
  have HB3 := Lib.hid (HB2.out.trans (ho3.below HB2.out.size (fun k hk => by omega)))
  clear hrd ho3 HN2
  go_wp2_with fail
  refine HN3.out.mono ?_
  rintro e w4 ⟨rfl, hrd, ho4⟩
  have HZ4 := Lib.hid (HZ3.out.only ho4 (by omega))
  have HB4 := Lib.hid (HB3.out.trans (ho4.below HB3.out.size (fun k hk => by omega)))
  have HBD := Lib.hid (bad_any hrd)
  clear hrd ho4 HN3 HZ1 HZ2 HZ3 HB1 HB2 HB3
  by_cases h6 : l.length < 6
  · have HBG := Lib.hid (show bget l = none from by rw [HEQ.out, HBH.out]; simp [show ¬ 6 ≤ l.length by omega])
    rw [HH1.out h6] at HBD
    go_wp2_with fail
    refine HBD.out.mono ?_
    rintro e w5 ⟨rfl, rfl⟩
    go_wp2_with (refine wpList_store_blk (by rfl) 45 (.tmp 2) (.tmp 37) rfl w.heap.size (mon0 0).cells (by rfl) (by rfl) 45 _ HZ4.out (by kernel_rfl) (by rfl) (mon_one _) ?_)
    refine bodyPost_ret (results_cell_tmp_tmp rfl _ _ w.heap.size 45 (mon0 0).cells (0, 0) _ (by rfl) (HZ4.out.setRow_ _) Tryd.underlying45 rfl (by kernel_rfl)) rfl ?_
    exact ⟨fun _ => rfl, fun d n h => (by rw [HBG.out] at h; cases h), below_setRow HB4.out (Nat.le_refl _) _⟩
  obtain ⟨hbad, hv, hn, hk⟩ := HH2.out (by omega)
  rw [hbad] at HBD
  have HV := Lib.hid hv
  have HN := Lib.hid hn
  have HK := Lib.hid hk
  clear hbad hv hn hk HS hl1 hl2
  have hD : (¬ v = 3) ∨ (v = 3 ∧ n < 6) ∨ (v = 3 ∧ ¬ n < 6 ∧ l.length < n) ∨ (v = 3 ∧ ¬ n < 6 ∧ ¬ l.length < n) := by omega
  rcases hD with h3 | ⟨rfl, h7⟩ | ⟨rfl, h7, h8⟩ | ⟨rfl, h7, h8⟩
  · have HBG := Lib.hid (show bget l = none from by
      rw [HEQ.out, HBH.out]
      have : ¬ l.getD 0 0 = 3 := fun e => h3 (by rw [HV.out, e]; rfl)
      simp only [this, decide_false, Bool.and_false, Bool.false_and, Bool.false_eq_true, if_false])
    have h3' : ¬ (v : Int) = 3 := by omega
    go_wp2_with fail
    refine HBD.out.mono ?_
    rintro e w5 ⟨rfl, rfl⟩
    go_wp2_with (refine wpList_store_blk (by rfl) 45 (.tmp 2) (.tmp 37) rfl w.heap.size (mon0 0).cells (by rfl) (by rfl) 45 _ HZ4.out (by kernel_rfl) (by rfl) (mon_one _) ?_)
    refine bodyPost_ret (results_cell_tmp_tmp rfl _ _ w.heap.size 45 (mon0 0).cells (0, 0) _ (by rfl) (HZ4.out.setRow_ _) Tryd.underlying45 rfl (by kernel_rfl)) rfl ?_
    exact ⟨fun _ => rfl, fun d n h => (by rw [HBG.out] at h; cases h), below_setRow HB4.out (Nat.le_refl _) _⟩
  · have HBG := Lib.hid (show bget l = none from by
      rw [HEQ.out, HBH.out, ← HN.out]
      simp only [show ¬ 6 ≤ n by omega, decide_false, Bool.and_false, Bool.false_and, Bool.false_eq_true, if_false])
    have h7' : (n : Int) < 6 := by omega
    go_wp2_with fail
    refine HBD.out.mono ?_
    rintro e w5 ⟨rfl, rfl⟩
    go_wp2_with (refine wpList_store_blk (by rfl) 45 (.tmp 2) (.tmp 37) rfl w.heap.size (mon0 0).cells (by rfl) (by rfl) 45 _ HZ4.out (by kernel_rfl) (by rfl) (mon_one _) ?_)
    refine bodyPost_ret (results_cell_tmp_tmp rfl _ _ w.heap.size 45 (mon0 0).cells (0, 0) _ (by rfl) (HZ4.out.setRow_ _) Tryd.underlying45 rfl (by kernel_rfl)) rfl ?_
    exact ⟨fun _ => rfl, fun d n h => (by rw [HBG.out] at h; cases h), below_setRow HB4.out (Nat.le_refl _) _⟩
  · have HBG := Lib.hid (show bget l = none from by
      rw [HEQ.out, HBH.out, ← HN.out]
      simp only [show ¬ n ≤ l.length by omega, decide_false, Bool.and_false, Bool.false_eq_true, if_false])
    have h7' : ¬ (n : Int) < 6 := by omega
    have h8' : (l.length : Int) < n := by omega
    go_wp2_with fail
    refine HBD.out.mono ?_
    rintro e w5 ⟨rfl, rfl⟩
    go_wp2_with (refine wpList_store_blk (by rfl) 45 (.tmp 2) (.tmp 37) rfl w.heap.size (mon0 0).cells (by rfl) (by rfl) 45 _ HZ4.out (by kernel_rfl) (by rfl) (mon_one _) ?_)
    refine bodyPost_ret (results_cell_tmp_tmp rfl _ _ w.heap.size 45 (mon0 0).cells (0, 0) _ (by rfl) (HZ4.out.setRow_ _) Tryd.underlying45 rfl (by kernel_rfl)) rfl ?_
    exact ⟨fun _ => rfl, fun d n h => (by rw [HBG.out] at h; cases h), below_setRow HB4.out (Nat.le_refl _) _⟩
  have h7' : ¬ (n : Int) < 6 := by omega
  have h8' : ¬ (l.length : Int) < n := by omega
  have HBHT := Lib.hid (show bhd l = true from by
    rw [HBH.out, ← HN.out]
    have h3 : l.getD 0 0 = 3 := by
      have := HV.out
      exact (UInt8.toNat_inj.1 (by rw [← this]; rfl))
    rw [h3]
    simp
    omega)
  have hbr : bread read1 l = read1 kn ((l.take n).drop 6) := by unfold bread; rw [← HN.out, ← HK.out]
  have hEQ2 : bget l = if (bread read1 l).ok && decide ((bread read1 l).put = l.take n) then some (bread read1 l, n) else none := by
    rw [HEQ.out, if_pos HBHT.out, ← HN.out]
  have HBR := Lib.hid hbr
  have HEQ2 := Lib.hid hEQ2
  have hlb : ((l.take n).drop 6).length = n - 6 := by simp; omega
  have HRW := Lib.hid (HR.out.below HB4.out (fun _ _ h => h))
  have hb5 := below_a1 w4 (.cells (mon0 kn).cells 45)
  have hrc : Reads (w4.alloc (.cells (mon0 kn).cells 45)) (· < w.heap.size) (cutA A c 6) (((l.take n).drop 6).map vb) := by
    have h1 := (HRW.out.alloc (.cells (mon0 kn).cells 45)).take n
    have h2 := h1.cut (c := c) (by simp; omega) 6
    rw [← List.map_take, ← List.map_drop] at h2
    exact h2
  have HF2 := from_any (cutA A c 6) (c - 6) _ _ _ (by rw [hlb]; omega) hrc
  rw [hlb] at HF2
  have HF2 := Lib.hid HF2
  have HB5 := Lib.hid hb5
  have HM5 := Lib.hid (Blk.new w4 45 (mon0 kn).cells)
  have HZ5 := Lib.hid (HZ4.out.below hb5 HZ4.out.lt)
  have hn1 : 6 ≤ n := by omega
  have hn2 : n ≤ c := by omega
  have HLB := Lib.hid (show ((l.take n).drop 6).length ≤ 1000000 by omega)
  have HLT := Lib.hid (show (l.take n).length = n by simp; omega)
  clear hbr hEQ2 hlb hb5 hrc
  go_wp2_with fail
  refine HBD.out.mono ?_
  rintro e w5 ⟨rfl, rfl⟩
  go_wp2_with (first | (refine wpList_store_new (by rfl) 45 (.tmp 9) (.tmp 39) rfl w4 _ (mon0 kn).cells rfl (by rfl) (by rfl) (by kernel_rfl) (by rfl) (mon_one _) ?_) | (refine wpList_cut_mid (by rfl) 25 5 (.tmp 40) (.const (.int .i64 6)) (.tmp 41) rfl Tryd.underlying25 hsz A l.length c 6 n 6 n (by rfl) (by rfl) (by rfl) rfl rfl hn1 hn2 ?_))
  refine HF2.out.mono ?_
  rintro e w6 ⟨g2, G2, rfl, hrd, hg2, hG2, hb6⟩
  have hM6 := HM5.out.below hb6 HM5.out.lt
  have hb7 := below_a1 w6 (.cells #[.slice none 0 0, .pointer (some ⟨g2, 0, none⟩)] 82)
  have hg2' : w4.heap.size < g2 := by simp at hg2; omega
  have hglt := hrd.blt
  have hW4 : w.heap.size < w4.heap.size := HZ4.out.lt
  have hs6 : w4.heap.size < w6.heap.size := by omega
  have hRW : RW (w6.alloc (.cells #[.slice none 0 0, .pointer (some ⟨g2, 0, none⟩)] 82)) (w6.alloc (.cells #[.slice none 0 0, .pointer (some ⟨g2, 0, none⟩)] 82)) w6.heap.size g2 w4.heap.size G2 (mon0 kn) ⟨(l.take n).drop 6, false⟩ :=
    ⟨⟨Blk.new _ _ _, hrd.below hb7, fun h => by have := hrd.lt _ h; omega⟩, hM6.below hb7 hM6.lt, Only.refl _ _, ⟨.nil, .nil, by simp [mon0], by simp [mon0], by simp [mon0], by simp [mon0], by simp [mon0]⟩, by simp; omega, by simp; omega, fun h => by have := hG2 _ h; simp at this; omega, HLB.out⟩
  have HWK := Lib.hid (walk_r kn _ hRW)
  have hb67 := (hb6.trans (hb7.mono hb6.size))
  have HZ7 := Lib.hid (HZ5.out.below hb67 HZ5.out.lt)
  have HB7 := Lib.hid (HB4.out.trans ((HB5.out.trans (hb67.mono HB5.out.size)).mono HB4.out.size))
  clear hrd hg2 hG2 hb6 hb7 hM6 hRW hb67 HF2
  go_wp2_with fail
  refine HWK.out.mono ?_
  rintro e w8 ⟨rfl, hex, ho8⟩
  obtain ⟨m, hmd, hmb, hmr⟩ := hex
  have HM8 := Lib.hid hmb
  have HZ8 := Lib.hid (HZ7.out.only ho8 (by omega))
  have HB8 := Lib.hid (HB7.out.trans (ho8.below HB7.out.size (fun k hk => by omega)))
  have HMR := Lib.hid (hmr.mono (G := fun k => w.heap.size < k) (fun k _ hk => by simp at hk; omega))
  have HMD := Lib.hid (HBR.out.trans hmd.symm)
  have HU32 := Lib.hid (show m.d.u32 from by rw [hmd]; exact read1_u32 _ _)
  have HR8 := Lib.hid ((HR.out.below HB8.out (fun _ _ h => h)).take n)
  clear hmb ho8 hmr hmd HWK
  cases hok : m.d.ok with
  | false =>
    have HBG := Lib.hid (show bget l = none from by rw [HEQ2.out, HMD.out, hok]; rfl)
    have HP := Lib.hid (bput_no m w8 _ HMR.out (HT.out.below HB8.out) hok)
    go_wp2_with (refine wpList_load_blk (by rfl) 45 (.tmp 9) rfl w4.heap.size (by rfl) 45 m.cells _ HM8.out Tryd.underlying45 rfl (by kernel_rfl) ?_)
    refine HP.out.mono ?_
    rintro e w9 ⟨rfl, hb9⟩
    have HZ9 := Lib.hid (HZ8.out.below hb9 HZ8.out.lt)
    have HB9 := Lib.hid (HB8.out.trans (hb9.mono HB8.out.size))
    clear hb9 HP
    go_wp2_with (refine wpList_store_blk (by rfl) 45 (.tmp 2) (.tmp 63) rfl w.heap.size (mon0 0).cells (by rfl) (by rfl) 45 _ HZ9.out (by kernel_rfl) (by rfl) (mon_one _) ?_)
    refine bodyPost_ret (results_cell_tmp_tmp rfl _ _ w.heap.size 45 (mon0 0).cells (0, 0) _ (by rfl) (HZ9.out.setRow_ _) Tryd.underlying45 rfl (by kernel_rfl)) rfl ?_
    exact ⟨fun _ => rfl, fun d n h => (by rw [HBG.out] at h; cases h), below_setRow HB9.out (Nat.le_refl _) _⟩
  | true =>
    have HP := Lib.hid (bput_ok m w8 _ HMR.out (HT.out.below HB8.out) hok HU32.out)
    go_wp2_with (refine wpList_load_blk (by rfl) 45 (.tmp 9) rfl w4.heap.size (by rfl) 45 m.cells _ HM8.out Tryd.underlying45 rfl (by kernel_rfl) ?_)
    refine HP.out.mono ?_
    rintro e w9 ⟨A9, c9, rfl, hown9, hb9⟩
    have HZ9 := Lib.hid (HZ8.out.below hb9 HZ8.out.lt)
    have HM9 := Lib.hid (HM8.out.below hb9 HM8.out.lt)
    have HB9 := Lib.hid (HB8.out.trans (hb9.mono HB8.out.size))
    have HMR9 := Lib.hid (HMR.out.below hb9 (fun _ h _ => h))
    obtain ⟨A9', c9', hv9, -, -, -, rd9⟩ := own_reads hown9
    injection hv9 with e1 e2 e3
    subst e1 e3
    have hr9 := HR8.out.below hb9 (fun _ h _ => h)
    rw [← List.map_take] at hr9
    have HQ := bequal_any A9 A c9 c m.d.put (l.take n) _ _ w9 rd9 hr9
    rw [HLT.out] at HQ
    have hEB : eqB m.d.put (l.take n) = decide (m.d.put = l.take n) := rfl
    generalize eqB m.d.put (l.take n) = eb at *
    have HQ := Lib.hid HQ
    have HEB := Lib.hid hEB
    clear hb9 HP hown9 rd9 hr9 hEB e2
    cases eb
    case false =>
      have HBG := Lib.hid (show bget l = none from by rw [HEQ2.out, HMD.out, hok, ← HEB.out]; rfl)
      go_wp2_with fail
      refine HQ.out.mono ?_
      rintro e w10 ⟨rfl, rfl⟩
      go_wp2_with (refine wpList_store_blk (by rfl) 45 (.tmp 2) (.tmp 63) rfl w.heap.size (mon0 0).cells (by rfl) (by rfl) 45 _ HZ9.out (by kernel_rfl) (by rfl) (mon_one _) ?_)
      refine bodyPost_ret (results_cell_tmp_tmp rfl _ _ w.heap.size 45 (mon0 0).cells (0, 0) _ (by rfl) (HZ9.out.setRow_ _) Tryd.underlying45 rfl (by kernel_rfl)) rfl ?_
      exact ⟨fun _ => rfl, fun d n h => (by rw [HBG.out] at h; cases h), below_setRow HB9.out (Nat.le_refl _) _⟩
    case true =>
      have HBG := Lib.hid (show bget l = some (m.d, n) from by rw [HEQ2.out, HMD.out, hok, ← HEB.out]; rfl)
      go_wp2_with fail
      refine HQ.out.mono ?_
      rintro e w10 ⟨rfl, rfl⟩
      go_wp2_with (first | (refine wpList_load_blk (by rfl) 45 (.tmp 9) rfl w4.heap.size (by rfl) 45 m.cells _ HM9.out Tryd.underlying45 rfl (by kernel_rfl) ?_) | (refine wpList_store_blk (by rfl) 45 (.tmp 2) (.tmp 64) rfl w.heap.size m.cells (by rfl) (by rfl) 45 _ HZ9.out (by kernel_rfl) (by rfl) (mon_one _) ?_))
      refine bodyPost_ret (results_cell_tmp_tmp rfl _ _ w.heap.size 45 m.cells (0, 0) _ (by rfl) (HZ9.out.setRow_ _) Tryd.underlying45 rfl (by kernel_rfl)) rfl ?_
      refine ⟨fun h => (by rw [HBG.out] at h; cases h), fun d n' h => ?_, below_setRow HB9.out (Nat.le_refl _) _⟩
      rw [HBG.out] at h
      injection h with h
      injection h with h1 h2
      subst h1 h2
      exact ⟨m, rfl, rfl, (HMR9.out.only (only_setRow w9 w.heap.size m.cells) (fun k _ hk e => by omega)).mono (fun k _ hk => Nat.le_of_lt hk)⟩
end Go.Proofs.YtbmbpcibihddaaaDoor
