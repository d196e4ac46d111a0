/-
  What is monitored, by the document: its bytes; is it too large to be looked at. No condition but that bytes read as data.
-/
import Derived.Test.YtbmbpcibihddaaaDoorBmpU
namespace Go.Proofs.YtbmbpcibihddaaaDoor
open Go.ChangeShapes Go.WideShapes Go.ChangeAt Go.RowKit

theorem rbody_any (m : MoV) (w : World) (F : Nat → Prop) (hr : m.Rd w F) (hok : m.d.ok = true) (hu : m.d.u32) :
    Calls Tryd.prog 53 #[m.val] w fun e w' => ∃ A c, e = .returned (.slice A m.d.body.length c) ∧ w'.ownsRow w.heap.size 5 1 (.slice A m.d.body.length c) m.d.body.length (m.d.body.map vb) ∧ Below w.heap.size w w' := by
  cases ht : talksB m.kind with
  | true => exact rbody_talk m w ht (readT_body m.d hok ht).1
  | false => exact rbody_peer m w F hr hok hu ht
set_option maxRecDepth 20000 in
set_option maxHeartbeats 8000000 in
theorem rbput_ok (m : MoV) (w : World) (F : Nat → Prop) (hr : m.Rd w F) (hok : m.d.ok = true) (hu : m.d.u32) :
    Calls Tryd.prog 21 #[m.val] w fun e w' => ∃ A c, e = .returned (.slice A m.d.put.length c) ∧ w'.ownsRow w.heap.size 5 1 (.slice A m.d.put.length c) m.d.put.length (m.d.put.map vb) ∧ Below w.heap.size w w' := by
  obtain ⟨i0, hi0, hz0, hz1, hz2⟩ := info_parts infoU8
  have hb0 := below_a1 w (.cells m.cells 45)
  have hk0 := Blk.new w 45 m.cells
  have HBO := Lib.hid (rbody_any m _ F (hr.alloc (.cells m.cells 45)) hok hu)
  have hbl := MD.body_length m.d hok
  have HPL := Lib.hid m.d.put_length
  have HPE := Lib.hid (show m.d.put = 3 :: (be 4 (6 + m.d.body.length) ++ (be 1 m.d.kind.toNat ++ m.d.body)) from rfl)
  obtain ⟨hk1, hk5⟩ := MD.ok_kind hok
  obtain ⟨kn, hkn⟩ : ∃ kn : Nat, m.kind = kn := ⟨m.kind.toNat, by have e : m.d.kind = m.kind := rfl; omega⟩
  have hkn6 : kn < 256 := by have e : m.d.kind = m.kind := rfl; omega
  have hkw : ((kn : Int)) % 256 = (kn : Int) := by omega
  have HKT := Lib.hid (show m.d.kind.toNat = kn from by rw [show m.d.kind = m.kind from rfl, hkn]; rfl)
  have HK0 := Lib.hid hk0
  have HB0 := Lib.hid hb0
  have HKC := Lib.hid fun (W : World) (h : Blk W w.heap.size 45 m.cells) => (show W.cell? ⟨w.heap.size, 0, none⟩ = some (.int .i64 kn) from by rw [h.cell, ← hkn]; rfl)
  clear hr hok hu hk0 hb0 hk1 hk5 hkn
  generalize m.d.body = body at *
  generalize m.d.put = put at *
  generalize hbn : body.length = bn at *
  simp only [MoV.val] at *
  have hwr : IntKind.i64.wrap ((bn : Int) + 6) = ((6 + bn : Nat) : Int) := by rw [IntWalk.i64_in _ (by omega)]; omega
  go_enter Tryd.func21, Tryd.ntmps21
  go_wp2_with (refine wpList_load_blk (by rfl) 45 (.tmp 1) rfl w.heap.size (by rfl) 45 m.cells _ HK0.out Tryd.underlying45 rfl (by kernel_rfl) ?_)
  refine HBO.out.mono ?_
  rintro e w1 ⟨Ab, cb, rfl, ownb, b1⟩
  obtain ⟨Ab', cb', hvb, -, -, -, rdb⟩ := own_reads ownb
  injection hvb with e1 e2 e3
  subst e1 e3
  have HRB := Lib.hid (rdb.mono (G := (· < w1.heap.size)) (fun _ h _ => h))
  have hl1 := (HK0.out.below b1 HK0.out.lt).lt
  have b3 := below_a1 w1 (.cells #[.int .u8 3] 5)
  have BS1 := Lib.hid (show BS w (w1.alloc (.cells #[.int .u8 3] 5)) m.cells (some ⟨w1.heap.size, 0, none⟩) 1 1 [3] from ⟨own_of_row w1 (w.heap.size + 1) [3] hl1 (by unfold maxLen; simp), HB0.out.trans ((b1.trans (b3.mono b1.size)).mono HB0.out.size), (HK0.out.below b1 HK0.out.lt).below b3 hl1⟩)
  have HF4 := Lib.hid (four_q (6 + bn) (by omega) (w1.alloc (.cells #[.int .u8 3] 5)) _ (Nat.le_refl _))
  have HS1 := Lib.hid (show w1.heap.size ≤ (w1.alloc (.cells #[.int .u8 3] 5)).heap.size by simp)
  have HS1B := Lib.hid b3
  have HBN := Lib.hid hbn
  clear ownb rdb b1 b3 e2 HBO hbn
  go_wp2_with fail
  refine HF4.out.mono ?_
  rintro e w2 ⟨A2, c2, rfl, q2, b2⟩
  have BS2 := Lib.hid (BS1.out.below b2)
  have hsz2 : w1.heap.size ≤ w2.heap.size := Nat.le_trans HS1.out b2.size
  have HRB2 := Lib.hid ((HRB.out.below (HS1B.out.trans (b2.mono HS1B.out.size)) (fun _ _ h => h)))
  have RD2 := q2.rd.mono (G := fun _ => True) (fun _ _ _ => trivial)
  obtain ⟨L1, hL1⟩ : ∃ L1 : List UInt8, [3] = L1 := ⟨_, rfl⟩
  obtain ⟨D1, hD1⟩ : ∃ D1 : List UInt8, be 4 (6 + bn) = D1 := ⟨_, rfl⟩
  have hd1 : D1.length = 4 := by rw [← hD1]; simp [be_length]
  rw [hL1] at BS2
  rw [hD1] at RD2
  have HL1 := Lib.hid hL1
  have HD1 := Lib.hid hD1
  clear q2 b2 hL1 hD1 BS1 HF4
  go_wp2_with (refine wpList_append_rd _ (by rfl) (.tmp 7) (.tmp 11) 25 rfl (w.heap.size + 1) 5 i0 (.int .u8 0) 1 1 Tryd.underlying25 hi0 hz0 hz1 hz2 rfl (by omega) _ 1 ((L1).map vb) (by rfl) BS2.out.own (fun _ => True) A2 4 c2 ((D1).map vb) (by rfl) (by simp [*]) RD2 (vb_one _) (by unfold maxLen; omega) (by omega) (by have := BS2.out.bel.size; have := BS2.out.blk.lt; omega) ?_)
  intro v3 w3 hown3 hg3 hloc3
  obtain ⟨A3, c3, hv3, -, -, -, -⟩ := own_reads hown3
  subst hv3
  have BS3b : BS w w3 m.cells A3 c3 5 (L1 ++ D1) := BS2.out.app (m := 4) (D := D1) hown3 hg3
  have HV3 := Lib.hid (show ∀ k, (Value.slice A3 5 c3).ownBlock = some k → w1.heap.size ≤ k from fun k hk => by
    rcases hloc3 with e | e
    · rw [e] at hk; simp [Value.ownBlock] at hk; omega
    · rw [e] at hk; injection hk with hk; omega)
  have HRB3 := Lib.hid (HRB2.out.only (S := fun k => (Value.slice (some ⟨w1.heap.size, 0, none⟩) 1 1).ownBlock = some k) ((Only.refl _ w2).grown hg3 (fun k hk _ => hk)) (fun b _ hb e => by simp [Value.ownBlock] at e; omega))
  have hsz3 : w1.heap.size ≤ w3.heap.size := Nat.le_trans hsz2 hg3.size
  generalize hL3 : L1 ++ D1 = L3 at *
  have HL3 := Lib.hid hL3
  have b4 := below_a1 w3 (.cells #[.int .u8 kn] 5)
  have BS3 := Lib.hid (BS3b.below b4)
  have HRB3a := Lib.hid (HRB3.out.below b4 (fun b hl _ => hl))
  have hq := HKC.out _ BS3b.blk
  have hvb : vb (UInt8.ofNat kn) = .int .u8 (kn : Int) := by simp only [vb]; rw [UInt8.toNat_ofNat', Nat.mod_eq_of_lt (by omega)]
  obtain ⟨D3, hD3⟩ : ∃ D3 : List UInt8, be 1 kn = D3 := ⟨_, rfl⟩
  have hd3 : D3.length = 1 := by rw [← hD3]; simp [be_length]
  have RD3 : Reads (w3.alloc (.cells #[.int .u8 kn] 5)) (fun _ => True) (some ⟨w3.heap.size, 0, none⟩) (D3.map vb) := by
    have h := (reads_of_blk (Blk.new w3 5 #[.int .u8 kn])).mono (G := fun _ => True) (fun _ _ _ => trivial)
    have e : D3.map vb = [.int .u8 (kn : Int)] := by rw [← hD3]; simp [be, hvb]
    rw [e]; exact h
  have HD3 := Lib.hid hD3
  clear hown3 hg3 BS2 RD2 hd1 hL3 BS3b b4 hvb hD3
  go_wp2_with (refine wpList_append_rd _ (by rfl) (.tmp 13) (.tmp 17) 25 rfl (w.heap.size + 1) 5 i0 (.int .u8 0) 1 1 Tryd.underlying25 hi0 hz0 hz1 hz2 rfl (by omega) _ 5 ((L3).map vb) (by rfl) BS3.out.own (fun _ => True) (some ⟨w3.heap.size, 0, none⟩) 1 1 ((D3).map vb) (by rfl) (by simp [*]) RD3 (vb_one _) (by unfold maxLen; omega) (by omega) (by have := BS3.out.bel.size; have := BS3.out.blk.lt; omega) ?_)
  intro v4 w4 hown4 hg4 _
  have HRB4 := Lib.hid (HRB3a.out.only (S := fun k => (Value.slice A3 5 c3).ownBlock = some k) ((Only.refl _ _).grown hg4 (fun k hk _ => hk)) (fun b _ hb e => by have := HV3.out b e; omega))
  obtain ⟨A4, c4, hv4, -, -, -, -⟩ := own_reads hown4
  subst hv4
  have BS4b : BS w w4 m.cells A4 c4 6 (L3 ++ D3) := BS3.out.app (m := 1) (D := D3) hown4 hg4
  generalize hL4 : L3 ++ D3 = L4 at *
  have HL4 := Lib.hid hL4
  have BS4 := Lib.hid BS4b
  have RD4 := HRB4.out.mono (G := fun _ => True) (fun _ _ _ => trivial)
  have hbn := HBN.out
  clear hown4 hg4 BS3 RD3 hd3 hL4 BS4b
  go_wp2_with (refine wpList_append_rd _ (by rfl) (.tmp 18) (.tmp 19) 25 rfl (w.heap.size + 1) 5 i0 (.int .u8 0) 1 1 Tryd.underlying25 hi0 hz0 hz1 hz2 rfl (by omega) _ 6 ((L4).map vb) (by rfl) BS4.out.own (fun _ => True) Ab bn cb ((body).map vb) (by rfl) (by simp [*]) RD4 (vb_one _) (by unfold maxLen; omega) (by omega) (by have := BS4.out.bel.size; have := BS4.out.blk.lt; omega) ?_)
  intro v5 w5 hown5 hg5 _
  obtain ⟨A5, c5, hv5, -, -, -, -⟩ := own_reads hown5
  subst hv5
  have BS5 := BS4.out.app (m := bn) (D := body) hown5 hg5
  go_wp2_with fail
  go_ret
  have hE : L4 ++ body = put := by rw [← HL4.out, ← HL3.out, ← HL1.out, ← HD1.out, ← HD3.out, HPE.out, HKT.out]; simp
  have h := own_mono BS5.own (Nat.le_succ w.heap.size)
  rw [hE] at h
  rw [HPL.out]
  exact ⟨A5, c5, rfl, h, BS5.bel⟩
theorem rlarge_any (m : MoV) (w : World) (F : Nat → Prop) (hr : m.Rd w F) :
    Calls Tryd.prog 15 #[m.val] w fun e w' => e = .returned (.bool (decide (5000 < m.sent.length) || decide (5000 < m.came.length) || decide (1000 < m.text.length))) ∧ Below w.heap.size w w' := by
  have hb := below_a1 w (.cells m.cells 45)
  have h1 := hr.sl
  have h2 := hr.cl
  have h3 := hr.tl
  have HSZ : (str m.text).size = m.text.length := by simp [str, ByteArray.size]
  obtain ⟨kind, id, addr, asn, time, reason, own, sA, sc, sent, cA, cc, came, text⟩ := m
  simp only [MoV.val, MoV.cells] at *
  clear hr
  generalize str text = tx at *
  generalize text.length = tl at *
  generalize sent.length = sl at *
  generalize came.length = cl at *
  have hD : (5000 : Int) < sl ∨ (¬ (5000 : Int) < sl ∧ (5000 : Int) < cl) ∨ (¬ (5000 : Int) < sl ∧ ¬ (5000 : Int) < cl) := by omega
  rcases hD with h | ⟨h, h'⟩ | ⟨h, h'⟩
  all_goals
    go_enter Tryd.func15, Tryd.ntmps15
    go_wp2_with fail
    go_ret
    refine ⟨?_, hb⟩
    refine congrArg Ending.returned (congrArg Value.bool ?_)
    rw [Bool.eq_iff_iff]
    simp [*]
    try omega
end Go.Proofs.YtbmbpcibihddaaaDoor
