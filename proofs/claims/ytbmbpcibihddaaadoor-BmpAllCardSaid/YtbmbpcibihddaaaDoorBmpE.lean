/-
  What is monitored: the codec goes over the parts, and writes. No condition but that bytes read as data.
-/
import Derived.Test.YtbmbpcibihddaaaDoorBmpC
namespace Go.Proofs.YtbmbpcibihddaaaDoor
open Go.ChangeShapes Go.WideShapes Go.ChangeAt Go.RowKit

/-- on the way: what is written so far, of what -/
structure WS (W w : World) (B cb mb : Nat) (m : MoV) (l : List UInt8) : Prop where
  cw : ∃ v, CW w B cb v l
  mon : Blk w mb 45 m.cells
  only : Only (fun k => B ≤ k) W w
  rd : m.Rd w (fun k => k < B)
  cbl : B ≤ cb
  mbl : mb < B
  bl : B ≤ w.heap.size
section
variable {W w w' : World} {B cb mb : Nat} {m : MoV} {l l' : List UInt8}
theorem WS.step {v : Value} (h : WS W w B cb mb m l) (hv : CW w B cb v l) (hp : CWPost w w' B cb v l') : WS W w' B cb mb m l' := by
  obtain ⟨v', h1, -⟩ := hp.ex
  have ho : Only (fun k => B ≤ k) w w' := hp.only.mono (fun k _ hk => hk.elim (fun e => by have := h.cbl; omega) (fun e => (hv.own.lt k e).1))
  exact ⟨⟨v', h1⟩, h.mon.only ho (by have := h.mbl; omega), h.only.trans ho (fun _ _ h => h), h.rd.only ho (fun b _ hb => by omega), h.cbl, h.mbl, Nat.le_trans h.bl ho.size⟩
theorem WS.below (h : WS W w B cb mb m l) (hb : Below w.heap.size w w') : WS W w' B cb mb m l := by
  obtain ⟨v, hv⟩ := h.cw
  exact ⟨⟨v, hv.below hb⟩, h.mon.below hb h.mon.lt, h.only.trans (Only.of_below hb) (fun _ _ h => h), h.rd.below hb (fun b hl _ => hl), h.cbl, h.mbl, Nat.le_trans h.bl hb.size⟩
theorem ws_zeros (h : WS W w B cb mb m l) (n : Nat) (hn : n ≤ 1000) (hl : l.length ≤ 90000000) :
    Calls Tryd.prog 68 #[.pointer (some ⟨cb, 0, none⟩), .int .i64 n] w fun e w' => e = .returned (.tuple #[]) ∧ WS W w' B cb mb m (l ++ List.replicate n 0) := by
  obtain ⟨v, hv⟩ := h.cw
  exact (zeros_w hv h.bl n hn hl).mono fun e w' ⟨he, hp⟩ => ⟨he, h.step hv hp⟩
theorem ws_word (h : WS W w B cb mb m l) (i n : Nat) (hn : n < 4294967296) (hi : m.cells[i]? = some (.int .u32 n)) (hl : l.length ≤ 90000000) :
    Calls Tryd.prog 69 #[.pointer (some ⟨cb, 0, none⟩), .pointer (some ⟨mb, i, none⟩)] w fun e w' => e = .returned (.tuple #[]) ∧ WS W w' B cb mb m (l ++ be 4 n) := by
  obtain ⟨v, hv⟩ := h.cw
  exact (word_w hv h.bl mb i n hn _ _ h.mon hi (by have := h.cbl; have := h.mbl; omega) h.mbl hl).mono fun e w' ⟨he, hp, _⟩ => ⟨he, h.step hv hp⟩
theorem ws_num4 (h : WS W w B cb mb m l) (g i n : Nat) (hn : n < 4294967296) (hi : w.cell? ⟨g, i, none⟩ = some (.int .i64 n)) (hl : l.length ≤ 90000000) :
    Calls Tryd.prog 44 #[.pointer (some ⟨cb, 0, none⟩), .pointer (some ⟨g, i, none⟩), .int .i64 4] w fun e w' => e = .returned (.tuple #[]) ∧ WS W w' B cb mb m (l ++ be 4 n) := by
  obtain ⟨v, hv⟩ := h.cw
  exact (cnum4_w hv h.bl g i n hn hi hl).mono fun e w' ⟨he, hp⟩ => ⟨he, h.step hv hp⟩
theorem ws_num1 (h : WS W w B cb mb m l) (g i n : Nat) (hn : n < 256) (hi : w.cell? ⟨g, i, none⟩ = some (.int .i64 n)) (hl : l.length ≤ 90000000) :
    Calls Tryd.prog 44 #[.pointer (some ⟨cb, 0, none⟩), .pointer (some ⟨g, i, none⟩), .int .i64 1] w fun e w' => e = .returned (.tuple #[]) ∧ WS W w' B cb mb m (l ++ be 1 n) := by
  obtain ⟨v, hv⟩ := h.cw
  exact (cnum1_w hv h.bl g i n hn hi hl).mono fun e w' ⟨he, hp⟩ => ⟨he, h.step hv hp⟩
theorem ws_one (h : WS W w B cb mb m l) (hl : l.length + m.sent.length ≤ 100000000) :
    Calls Tryd.prog 70 #[.pointer (some ⟨cb, 0, none⟩), .pointer (some ⟨mb, 7, none⟩)] w fun e w' => e = .returned (.tuple #[]) ∧ WS W w' B cb mb m (l ++ m.sent) := by
  obtain ⟨v, hv⟩ := h.cw
  exact (one_w hv h.bl mb 7 m.sA m.sc m.sent _ (by rw [h.mon.cell]; rfl) h.rd.s hl).mono fun e w' ⟨he, hp⟩ => ⟨he, h.step hv hp⟩
theorem ws_rest (h : WS W w B cb mb m l) (hl : l.length + m.came.length ≤ 100000000) :
    Calls Tryd.prog 71 #[.pointer (some ⟨cb, 0, none⟩), .pointer (some ⟨mb, 8, none⟩)] w fun e w' => e = .returned (.tuple #[]) ∧ WS W w' B cb mb m (l ++ m.came) := by
  obtain ⟨v, hv⟩ := h.cw
  exact (rest_w hv h.bl mb 8 m.cA m.cc m.came _ (by rw [h.mon.cell]; rfl) h.rd.c hl).mono fun e w' ⟨he, hp⟩ => ⟨he, h.step hv hp⟩
theorem ws_text (h : WS W w B cb mb m l) (hd : m.text.length ≤ 1000000) (hl : l.length ≤ 1000000) :
    Calls Tryd.prog 67 #[.pointer (some ⟨cb, 0, none⟩), .pointer (some ⟨mb, 9, none⟩)] w fun e w' => e = .returned (.tuple #[]) ∧ WS W w' B cb mb m (l ++ be 4 m.text.length ++ m.text) := by
  obtain ⟨v, hv⟩ := h.cw
  refine (text_w hv h.bl mb 9 m.text _ _ h.mon rfl (by have := h.cbl; have := h.mbl; omega) h.mbl hd hl).mono fun e w' ⟨he, hc, hm, ho⟩ => ⟨he, ?_⟩
  have ho : Only (fun k => B ≤ k) w w' := ho.mono (fun k _ hk => hk.elim (fun e => by have := h.cbl; omega) id)
  exact ⟨hc, hm, h.only.trans ho (fun _ _ h => h), h.rd.only ho (fun b _ hb => by omega), h.cbl, h.mbl, Nat.le_trans h.bl ho.size⟩

set_option maxRecDepth 20000 in
set_option maxHeartbeats 8000000 in
theorem walk_w (h : WS W w B cb mb m []) (hok : m.d.ok = true) (hu : m.d.u32) :
    Calls Tryd.prog 43 #[.pointer (some ⟨cb, 0, none⟩), .pointer (some ⟨mb, 0, none⟩)] w fun e w' => e = .returned (.tuple #[]) ∧ WS W w' B cb mb m m.d.body := by
  have hk0 : w.cell? ⟨mb, 0, none⟩ = some (.int .i64 m.kind) := by rw [h.mon.cell]; rfl
  cases ht : talksB m.kind with
  | true =>
    obtain ⟨hl, -⟩ := readT_body m.d hok ht
    have hb : m.d.body = [] ++ be 4 m.text.length ++ m.text := by unfold MD.body; rw [if_pos (show talksB m.d.kind = true from ht)]; rfl
    rw [hb]
    have HT := Lib.hid (ws_text h (show m.text.length ≤ 1000000 by have : m.text.length ≤ 255 := hl; omega) (by simp))
    have HK := Lib.hid (talks_any m.kind w)
    rw [ht] at HK
    clear h hok hu hl hb ht
    go_enter Tryd.func43, Tryd.ntmps43
    go_wp2_with fail
    refine HK.out.mono ?_
    rintro e w1 ⟨rfl, rfl⟩
    go_wp2_with fail
    refine HT.out.mono ?_
    rintro e w2 ⟨rfl, hs⟩
    go_wp2_with fail
    first | refine bodyPost_ret (results_none rfl _ _ _) rfl ?_ | refine bodyPost_end (results_none rfl _ _ _) rfl ?_
    exact ⟨rfl, hs⟩
  | false =>
    have HBL := MD.body_length m.d hok
    have hb : m.d.body = List.replicate 22 0 ++ (be 4 m.addr ++ (be 4 m.asn.toNat ++ (be 4 m.id ++ (be 4 m.time.toNat ++ (List.replicate 4 0 ++ (m.d.mid ++ m.came)))))) := by unfold MD.body; rw [if_neg (show ¬ talksB m.d.kind = true by rw [show m.d.kind = m.kind from rfl, ht]; simp)]; rfl
    obtain ⟨hus, ha0, ha1, ht0, ht1, hm⟩ := MD.ok_parts hok
    have hus : True := trivial
    have ha0 : 0 ≤ m.asn := ha0
    have ha1 : m.asn ≤ 4294967295 := ha1
    have ht0 : 0 ≤ m.time := ht0
    have ht1 : m.time ≤ 4294967295 := ht1
    obtain ⟨hi32, had32, ho32⟩ := hu
    have hi32 : m.id < 4294967296 := hi32
    have had32 : m.addr < 4294967296 := had32
    have ho32 : m.own < 4294967296 := ho32
    obtain ⟨a, ha⟩ : ∃ a : Nat, m.asn = a := ⟨m.asn.toNat, by omega⟩
    obtain ⟨t, htt⟩ : ∃ t : Nat, m.time = t := ⟨m.time.toNat, by omega⟩
    have haL : a < 4294967296 := by omega
    have htL : t < 4294967296 := by omega
    rw [ha, htt, Int.toNat_natCast, Int.toNat_natCast] at hb
    have HK := Lib.hid (talks_any m.kind w)
    rw [ht] at HK
    have HS := Lib.hid h
    have HMS : m.kind = 0 ∨ (m.kind = 2 ∧ 1 ≤ m.reason ∧ m.reason ≤ 4) ∨ m.kind = 3 := by
      unfold MD.msgs at hm
      split at hm
      · exact .inl (by assumption)
      split at hm
      · rename_i h2; simp at hm; exact .inr (.inl ⟨h2, hm.1⟩)
      split at hm
      · exact .inr (.inr (by assumption))
      · rw [show talksB m.d.kind = false from ht] at hm; simp at hm
    have HCK := Lib.hid fun (w : World) (l : List UInt8) (h : WS W w B cb mb m l) => (show w.cell? ⟨mb, 0, none⟩ = some (.int .i64 m.kind) ∧ w.cell? ⟨mb, 3, none⟩ = some (.int .i64 a) ∧ w.cell? ⟨mb, 4, none⟩ = some (.int .i64 t) ∧ w.cell? ⟨mb, 5, none⟩ = some (.int .i64 m.reason) from by
      refine ⟨by rw [h.mon.cell]; rfl, ?_, ?_, by rw [h.mon.cell]; rfl⟩
      · rw [← ha, h.mon.cell]; rfl
      · rw [← htt, h.mon.cell]; rfl)
    clear h hok hm hus ht ha htt
    go_enter Tryd.func43, Tryd.ntmps43
    go_wp2_with fail
    refine HK.out.mono ?_
    rintro e w1 ⟨rfl, rfl⟩
    clear hk0
    go_wp2_with fail
    refine (ws_zeros HS.out 22 (by omega) (by simp)).mono ?_
    rintro e w2 ⟨rfl, hs2⟩
    have HS2 := Lib.hid hs2
    clear hs2
    go_wp2_with fail
    refine (ws_word HS2.out 2 m.addr had32 rfl (by simp)).mono ?_
    rintro e w3 ⟨rfl, hs3⟩
    have HS3 := Lib.hid hs3
    clear hs3
    go_wp2_with fail
    refine (ws_num4 HS3.out mb 3 a haL (HCK.out _ _ HS3.out).2.1 (by simp [be_length])).mono ?_
    rintro e w4 ⟨rfl, hs4⟩
    have HS4 := Lib.hid hs4
    clear hs4
    go_wp2_with fail
    refine (ws_word HS4.out 1 m.id hi32 rfl (by simp [be_length])).mono ?_
    rintro e w5 ⟨rfl, hs5⟩
    have HS5 := Lib.hid hs5
    clear hs5
    go_wp2_with fail
    refine (ws_num4 HS5.out mb 4 t htL (HCK.out _ _ HS5.out).2.2.1 (by simp [be_length])).mono ?_
    rintro e w6 ⟨rfl, hs6⟩
    have HS6 := Lib.hid hs6
    clear hs6
    go_wp2_with fail
    refine (ws_zeros HS6.out 4 (by omega) (by simp [be_length])).mono ?_
    rintro e w7 ⟨rfl, hs7⟩
    have HS7 := Lib.hid hs7
    clear hs7
    have hk7 := (HCK.out _ _ HS7.out).1
    rcases HMS with hk | ⟨hk, hr1, hr4⟩ | hk
    · have hmid : m.d.mid = [] := by simp [MD.mid, MoV.d, hk]
      have HE := Lib.hid (show m.d.body = [] ++ List.replicate 22 0 ++ be 4 m.addr ++ be 4 a ++ be 4 m.id ++ be 4 t ++ List.replicate 4 0 ++ m.came from by rw [hb, hmid]; simp)
      have HR := Lib.hid (ws_rest HS7.out (by have h1 := congrArg List.length HE.out; simp [be_length] at h1 ⊢; omega))
      rw [hk] at hk7
      clear hb hmid hk
      go_wp2_with fail
      refine HR.out.mono ?_
      rintro e w8 ⟨rfl, hs8⟩
      go_wp2_with fail
      first | refine bodyPost_ret (results_none rfl _ _ _) rfl ?_ | refine bodyPost_end (results_none rfl _ _ _) rfl ?_
      rw [HE.out]
      exact ⟨rfl, hs8⟩
    · obtain ⟨r, hr⟩ : ∃ r : Nat, m.reason = r := ⟨m.reason.toNat, by omega⟩
      have hmid : m.d.mid = be 1 r := by simp [MD.mid, MoV.d, hk, hr]
      have HE := Lib.hid (show m.d.body = [] ++ List.replicate 22 0 ++ be 4 m.addr ++ be 4 a ++ be 4 m.id ++ be 4 t ++ List.replicate 4 0 ++ be 1 r ++ m.came from by rw [hb, hmid]; simp)
      have HLC := Lib.hid (show m.came.length ≤ 8300 from by have h1 := congrArg List.length HE.out; simp [be_length] at h1; omega)
      have HN := Lib.hid (ws_num1 HS7.out mb 5 r (by omega) (by rw [(HCK.out _ _ HS7.out).2.2.2, hr]) (by simp [be_length]))
      rw [hk] at hk7
      clear hb hmid hk hr
      go_wp2_with fail
      refine HN.out.mono ?_
      rintro e w8 ⟨rfl, hs8⟩
      have HR := Lib.hid (ws_rest hs8 (by have := HLC.out; simp [be_length]; omega))
      clear hs8
      go_wp2_with fail
      refine HR.out.mono ?_
      rintro e w9 ⟨rfl, hs9⟩
      go_wp2_with fail
      first | refine bodyPost_ret (results_none rfl _ _ _) rfl ?_ | refine bodyPost_end (results_none rfl _ _ _) rfl ?_
      rw [HE.out]
      exact ⟨rfl, hs9⟩
    · have hmid : m.d.mid = List.replicate 12 0 ++ (be 4 m.own ++ (be 4 11731123 ++ m.sent)) := by simp [MD.mid, MoV.d, hk]
      have HE := Lib.hid (show m.d.body = [] ++ List.replicate 22 0 ++ be 4 m.addr ++ be 4 a ++ be 4 m.id ++ be 4 t ++ List.replicate 4 0 ++ List.replicate 12 0 ++ be 4 m.own ++ be 4 11731123 ++ m.sent ++ m.came from by rw [hb, hmid]; simp)
      have HLC := Lib.hid (show m.sent.length + m.came.length ≤ 8300 from by have h1 := congrArg List.length HE.out; simp [be_length] at h1; omega)
      have HN := Lib.hid (ws_zeros HS7.out 12 (by omega) (by simp [be_length]))
      rw [hk] at hk7
      clear hb hmid hk
      go_wp2_with fail
      refine HN.out.mono ?_
      rintro e w8 ⟨rfl, hs8⟩
      have HS8 := Lib.hid hs8
      clear hs8 hk7
      go_wp2_with fail
      refine (ws_word HS8.out 6 m.own ho32 rfl (by simp [be_length])).mono ?_
      rintro e w9 ⟨rfl, hs9⟩
      have hs10 := hs9.below (below_a1 w9 (.cells #[.int .i64 11731123] 3))
      have HN10 := Lib.hid (ws_num4 hs10 w9.heap.size 0 11731123 (by omega) (by rw [(Blk.new w9 3 #[.int .i64 11731123]).cell]; rfl) (by simp [be_length]))
      clear hs9 hs10
      go_wp2_with fail
      refine HN10.out.mono ?_
      rintro e w11 ⟨rfl, hs11⟩
      have HN11 := Lib.hid (ws_one hs11 (by have := HLC.out; simp [be_length]; omega))
      clear hs11
      go_wp2_with fail
      refine HN11.out.mono ?_
      rintro e w12 ⟨rfl, hs12⟩
      have HN12 := Lib.hid (ws_rest hs12 (by have := HLC.out; simp [be_length]; omega))
      clear hs12
      go_wp2_with fail
      refine HN12.out.mono ?_
      rintro e w13 ⟨rfl, hs13⟩
      go_wp2_with fail
      first | refine bodyPost_ret (results_none rfl _ _ _) rfl ?_ | refine bodyPost_end (results_none rfl _ _ _) rfl ?_
      rw [HE.out]
      exact ⟨rfl, hs13⟩
end
end Go.Proofs.YtbmbpcibihddaaaDoor
