/-
  What is monitored, by the document: the bytes behind the head. No condition but that bytes read as data. (Printed by wip/tools/gen_bmpu.py.)
-/
import Derived.Test.YtbmbpcibihddaaaDoorBmpT
import Derived.Test.YtbmbpcibihddaaaDoorBmpJ
import Derived.Test.YtbmbpcibihddaaaDoorNumRPut
namespace Go.Proofs.YtbmbpcibihddaaaDoor
open Go.ChangeShapes Go.WideShapes Go.ChangeAt Go.RowKit

/-- the row that is written, and what is monitored -/
structure BS (w W : World) (cells : Array Value) (A : Option Addr) (c n : Nat) (L : List UInt8) : Prop where
  own : W.ownsRow (w.heap.size + 1) 5 1 (.slice A n c) n (L.map vb)
  bel : Below w.heap.size w W
  blk : Blk W w.heap.size 45 cells
/-- a row that a call has made -/
structure QR (W0 W : World) (A : Option Addr) (l : List UInt8) : Prop where
  rd : Reads W (fun k => W0.heap.size ≤ k ∧ k < W.heap.size) A (l.map vb)
section
variable {w W0 W W' : World} {cells : Array Value} {A : Option Addr} {c n m : Nat} {L D l : List UInt8}
theorem BS.below (h : BS w W cells A c n L) (hb : Below W.heap.size W W') : BS w W' cells A c n L :=
  ⟨own_only h.own (S := fun _ => False) (Only.of_below hb) (fun _ _ h => h), h.bel.trans (hb.mono h.bel.size), h.blk.below hb h.blk.lt⟩
theorem BS.drew (h : BS w W cells A c n L) : BS w W.drew cells A c n L := ⟨h.own, h.bel.drew, h.blk⟩
theorem BS.app {A' : Option Addr} {c' : Nat} (h : BS w W cells A c n L) (ho : W'.ownsRow (w.heap.size + 1) 5 1 (.slice A' (n + m) c') (n + m) (L.map vb ++ D.map vb)) (hg : W.grownBy W' (Value.slice A n c).ownBlock) : BS w W' cells A' c' (n + m) (L ++ D) := by
  refine ⟨by rw [List.map_append]; exact ho, ?_, h.blk.grown hg (fun e => by have := (h.own.lt _ e.symm).1; omega)⟩
  exact below_append h.bel h.bel.size (own_mono h.own (Nat.le_succ _)) hg
theorem QR.below (h : QR W0 W A l) (hb : Below W.heap.size W W') : QR W0 W' A l :=
  ⟨(h.rd.below hb (fun _ hl _ => hl)).mono (fun _ hl hk => ⟨hk.1, hl⟩)⟩
theorem QR.grown {row : Option Nat} (h : QR W0 W A l) (hg : W.grownBy W' row) (hv : ∀ k, row = some k → k < W0.heap.size) : QR W0 W' A l :=
  ⟨(h.rd.only (S := fun k => row = some k) ((Only.refl _ W).grown hg (fun k hk _ => hk)) (fun b _ hb e => by have := hv b e; omega)).mono (fun _ hl hk => ⟨hk.1, hl⟩)⟩
end
theorem four_q (n : Nat) (h : n < 4294967296) (W0 W : World) (hs : W0.heap.size ≤ W.heap.size) :
    Calls Tryd.prog 54 #[.int .i64 n] W fun e w' => ∃ A c, e = .returned (.slice A 4 c) ∧ QR W0 w' A (be 4 n) ∧ Below W.heap.size W w' := by
  have H := Lib.hid (rput_ok4 n W h)
  go_enter Tryd.func54, Tryd.ntmps54
  go_wp2_with fail
  refine H.out.mono ?_
  rintro e w1 ⟨v, rfl, ho, hb⟩
  obtain ⟨A, c, hv, -, -, -, hr⟩ := own_reads ho
  subst hv
  go_wp2_with fail
  go_ret
  exact ⟨A, c, rfl, ⟨hr.mono (fun k hk h => ⟨Nat.le_trans hs h.1, hk⟩)⟩, hb⟩
set_option maxRecDepth 20000 in
set_option maxHeartbeats 16000000 in
theorem rbody_talk (m : MoV) (w : World) (ht : talksB m.kind = true) (hl : m.text.length ≤ 255) :
    Calls Tryd.prog 53 #[m.val] w fun e w' => ∃ A c, e = .returned (.slice A m.d.body.length c) ∧ w'.ownsRow w.heap.size 5 1 (.slice A m.d.body.length c) m.d.body.length (m.d.body.map vb) ∧ Below w.heap.size w w' := by
  obtain ⟨i0, hi0, hz0, hz1, hz2⟩ := info_parts infoU8
  have hb0 := below_a1 w (.cells m.cells 45)
  have hE : m.d.body = be 4 m.text.length ++ m.text := by unfold MD.body; rw [if_pos (show talksB m.d.kind = true from ht)]; rfl
  have hk : m.kind = 4 ∨ m.kind = 5 := by simpa [talksB] using ht
  have hb4 : be 4 m.text.length = [0, 0, 0, UInt8.ofNat m.text.length] := by
    simp only [be]
    rw [show m.text.length / 256 ^ 3 = 0 from Nat.div_eq_of_lt (by omega), show m.text.length / 256 ^ 2 = 0 from Nat.div_eq_of_lt (by omega), show m.text.length / 256 ^ 1 = 0 from Nat.div_eq_of_lt (by omega), show m.text.length / 256 ^ 0 = m.text.length from by simp]
    rfl
  have HSZ : (str m.text).size = m.text.length := by simp [str, ByteArray.size]
  have hwv : ((m.text.length : Int)) % 256 = (m.text.length : Int) := by omega
  have hvb : vb (UInt8.ofNat m.text.length) = .int .u8 (m.text.length : Int) := by simp only [vb]; rw [UInt8.toNat_ofNat', Nat.mod_eq_of_lt (by omega)]
  have HSC := Lib.hid (strCells_vb m.text)
  have HE := Lib.hid (hE.trans (by rw [hb4]))
  generalize m.d.body = body at *
  obtain ⟨kind, id, addr, asn, time, reason, own, sA, sc, sent, cA, cc, came, text⟩ := m
  simp only [MoV.val, MoV.cells] at *
  have HO := Lib.hid fun (W : World) (hW : w.heap.size ≤ W.heap.size) => own_of_row W w.heap.size [0, 0, 0, UInt8.ofNat text.length] hW (by unfold maxLen; simp)
  simp only [List.map_cons, List.map_nil, hvb, show vb (0 : UInt8) = Value.int .u8 0 from rfl, List.length_cons, List.length_nil, Nat.zero_add, Nat.reduceAdd] at HO
  have HO := HO.out (w.alloc (.cells #[.int .i64 kind, .int .u32 id, .int .u32 addr, .int .i64 asn, .int .i64 time, .int .i64 reason, .int .u32 own, .slice sA sent.length sc, .slice cA came.length cc, .string (str text)] 45)) (by simp)
  rw [World.size_alloc] at HO
  have HO := Lib.hid HO
  have HLE := Lib.hid (show body.length = 4 + text.length from by rw [HE.out]; simp; omega)
  have HB0 := Lib.hid hb0
  have HVB := Lib.hid hvb
  clear hE hb4 ht hb0 hvb
  generalize hS : str text = S at *
  generalize text.length = tl at *
  have HS := Lib.hid hS
  clear hS
  rcases hk with rfl | rfl
  all_goals
    go_enter Tryd.func53, Tryd.ntmps53
    go_wp2_with (refine Lib.wpList_append_own_string _ (by rfl) (.tmp 16) (.tmp 18) 25 9 rfl w.heap.size 5 i0 Tryd.underlying25 Tryd.underlying9 hi0 hz0 hz1 hz2 _ 4 _ (by rfl) HO.out S (by rfl) (by unfold maxLen; omega) (by omega) (by simp; omega) ?_)
    intro v4 w4 hown4 hg4 _
    obtain ⟨A4, c4, hv4, -, -, -, -⟩ := own_reads hown4
    subst hv4
    go_wp2_with fail
    go_ret
    rw [HSC.out] at hown4
    have e : List.map vb ([0, 0, 0, UInt8.ofNat tl] ++ text) = .int .u8 0 :: .int .u8 0 :: .int .u8 0 :: .int .u8 tl :: text.map vb := by rw [← HVB.out]; rfl
    refine ⟨A4, c4, ?_, ?_, ?_⟩
    · rw [HLE.out]; rfl
    · rw [HLE.out, HE.out, e]; exact hown4
    · exact below_append (w0 := w) (HB0.out.alloc HB0.out.size _) (by simp; omega) HO.out hg4
set_option maxRecDepth 20000 in
set_option maxHeartbeats 32000000 in
theorem rbody_peer (m : MoV) (w : World) (F : Nat → Prop) (hr : m.Rd w F) (hok : m.d.ok = true) (hu : m.d.u32) (ht : talksB m.kind = false) :
    Calls Tryd.prog 53 #[m.val] w fun e w' => ∃ A c, e = .returned (.slice A m.d.body.length c) ∧ w'.ownsRow w.heap.size 5 1 (.slice A m.d.body.length c) m.d.body.length (m.d.body.map vb) ∧ Below w.heap.size w w' := by
  obtain ⟨i0, hi0, hz0, hz1, hz2⟩ := info_parts infoU8
  have HBL := MD.body_length m.d hok
  have hb : m.d.body = List.replicate 22 0 ++ (be 4 m.addr ++ (be 4 m.asn.toNat ++ (be 4 m.id ++ (be 4 m.time.toNat ++ (List.replicate 4 0 ++ (m.d.mid ++ m.came)))))) := by unfold MD.body; rw [if_neg (show ¬ talksB m.d.kind = true by rw [show m.d.kind = m.kind from rfl, ht]; simp)]; rfl
  have hmid : m.d.mid = if m.kind = 2 then be 1 m.reason.toNat else if m.kind = 3 then List.replicate 12 0 ++ (be 4 m.own ++ (be 4 11731123 ++ m.sent)) else [] := rfl
  obtain ⟨hus, ha0, ha1, ht0, ht1, hm⟩ := MD.ok_parts hok
  have hus : True := trivial
  have ha0 : 0 ≤ m.asn := ha0
  have ha1 : m.asn ≤ 4294967295 := ha1
  have ht0 : 0 ≤ m.time := ht0
  have ht1 : m.time ≤ 4294967295 := ht1
  obtain ⟨hi32, had32, ho32⟩ := hu
  have hi32 : m.id < 4294967296 := hi32
  have had32 : m.addr < 4294967296 := had32
  have ho32 : m.own < 4294967296 := ho32
  have HMS : m.kind = 0 ∨ (m.kind = 2 ∧ 1 ≤ m.reason ∧ m.reason ≤ 4) ∨ m.kind = 3 := by
    unfold MD.msgs at hm
    split at hm
    · exact .inl (by assumption)
    split at hm
    · rename_i h2; simp at hm; exact .inr (.inl ⟨h2, hm.1⟩)
    split at hm
    · exact .inr (.inr (by assumption))
    · rw [show talksB m.d.kind = false from ht] at hm; simp at hm
  have hz4 : (m.kind == 4) = false := by simp; omega
  have hz5 : (m.kind == 5) = false := by simp; omega
  have HRS := Lib.hid (hr.s.mono (G := (· < w.heap.size)) (fun _ h _ => h))
  have HRC := Lib.hid (hr.c.mono (G := (· < w.heap.size)) (fun _ h _ => h))
  have hsl : m.sent.length ≤ 9223372036854775807 := hr.sl
  clear hok hm hus hr
  generalize m.d.body = body at *
  generalize m.d.mid = mid at *
  obtain ⟨kind, id, addr, asn, time, reason, own, sA, sc, sent, cA, cc, came, text⟩ := m
  dsimp only at *
  obtain ⟨a, rfl⟩ : ∃ a : Nat, asn = a := ⟨asn.toNat, by omega⟩
  obtain ⟨tm, rfl⟩ : ∃ tm : Nat, time = tm := ⟨time.toNat, by omega⟩
  simp only [MoV.val, MoV.cells, Int.toNat_natCast] at *
  have haL : a < 4294967296 := by omega
  have htL : tm < 4294967296 := by omega
  have hwa : IntKind.i64.wrap (addr : Int) = (addr : Int) := IntWalk.i64_in _ (by omega)
  have hwi : IntKind.i64.wrap (id : Int) = (id : Int) := IntWalk.i64_in _ (by omega)
  have hwo : IntKind.i64.wrap (own : Int) = (own : Int) := IntWalk.i64_in _ (by omega)
  generalize str text = tx at *
  obtain ⟨sl, hsl'⟩ : ∃ sl, sent.length = sl := ⟨_, rfl⟩
  obtain ⟨cl, hcl'⟩ : ∃ cl, came.length = cl := ⟨_, rfl⟩
  simp only [hsl', hcl']
  have HB := Lib.hid hb
  have HMID := Lib.hid hmid
  have HSL := Lib.hid hsl'
  have HCL := Lib.hid hcl'
  have HBL := Lib.hid HBL
  clear hb hmid ha0 ha1 ht0 ht1 hsl hsl' hcl'
  have HCS := Lib.hid fun (W : World) (h : Blk W w.heap.size 45 #[.int .i64 kind, .int .u32 id, .int .u32 addr, .int .i64 a, .int .i64 tm, .int .i64 reason, .int .u32 own, .slice sA sl sc, .slice cA cl cc, .string tx]) => blk10 h
  have hb0 := below_a1 w (.cells #[.int .i64 kind, .int .u32 id, .int .u32 addr, .int .i64 a, .int .i64 tm, .int .i64 reason, .int .u32 own, .slice sA sl sc, .slice cA cl cc, .string tx] 45)
  have HK0 := Lib.hid (Blk.new w 45 #[.int .i64 kind, .int .u32 id, .int .u32 addr, .int .i64 a, .int .i64 tm, .int .i64 reason, .int .u32 own, .slice sA sl sc, .slice cA cl cc, .string tx])
  have HB0 := Lib.hid hb0
  clear hb0
  go_enter Tryd.func53, Tryd.ntmps53
  go_wp2_with (refine wpList_make_w _ (by rfl) (.const (.int .i64 22)) (.const (.int .i64 22)) 25 rfl (w.heap.size + 1) 5 i0 (.int .u8 0) 1 Tryd.underlying25 hi0 hz0 hz1 .i64 .i64 _ _ 22 (by rfl) (by rfl) rfl rfl (by rw [hz2]; omega) (by unfold maxLen; omega) (by simp) ?_)
  intro w1 o1 g1
  rw [toList_madeCells_one, replicate_vb] at o1
  have BS1 := Lib.hid (show BS w w1 #[.int .i64 kind, .int .u32 id, .int .u32 addr, .int .i64 a, .int .i64 tm, .int .i64 reason, .int .u32 own, .slice sA sl sc, .slice cA cl cc, .string tx] _ 22 22 (List.replicate 22 0) from ⟨o1, below_append HB0.out HB0.out.size (own_nil (w.alloc (.cells #[.int .i64 kind, .int .u32 id, .int .u32 addr, .int .i64 a, .int .i64 tm, .int .i64 reason, .int .u32 own, .slice sA sl sc, .slice cA cl cc, .string tx] 45)) w.heap.size 5 1) g1, HK0.out.grown g1 (fun e => by cases e)⟩)
  clear o1 g1 HK0 HB0
  go_upto_region 4 with fail
  go_cut [3] (fun v wx => ∃ A c, v = .slice A 30 c ∧ BS w wx #[.int .i64 kind, .int .u32 id, .int .u32 addr, .int .i64 a, .int .i64 tm, .int .i64 reason, .int .u32 own, .slice sA sl sc, .slice cA cl cc, .string tx] A c 30 (List.replicate 22 0 ++ be 4 addr ++ be 4 a))
  case first =>
    generalize hL0 : (List.replicate 22 0 : List UInt8) = L0 at *
    have BSD := Lib.hid BS1.out.drew
    have hszD : w1.heap.size ≤ w1.drew.heap.size := Nat.le_refl _
    have HV0 := Lib.hid fun (k : Nat) (hk : (Value.slice (some ⟨w.heap.size + 1, 0, none⟩) 22 22).ownBlock = some k) => (BS1.out.own.lt k hk).2
    refine wp_region_held_drew (S := (fun W => W.cell? ⟨w.heap.size, 0, none⟩ = some (.int .i64 kind) ∧ W.cell? ⟨w.heap.size, 1, none⟩ = some (.int .u32 id) ∧ W.cell? ⟨w.heap.size, 2, none⟩ = some (.int .u32 addr) ∧ W.cell? ⟨w.heap.size, 3, none⟩ = some (.int .i64 a) ∧ W.cell? ⟨w.heap.size, 4, none⟩ = some (.int .i64 tm) ∧ W.cell? ⟨w.heap.size, 5, none⟩ = some (.int .i64 reason) ∧ W.cell? ⟨w.heap.size, 6, none⟩ = some (.int .u32 own) ∧ W.cell? ⟨w.heap.size, 7, none⟩ = some (.slice sA sl sc) ∧ W.cell? ⟨w.heap.size, 8, none⟩ = some (.slice cA cl cc) ∧ W.cell? ⟨w.heap.size, 9, none⟩ = some (.string tx))) (by kernel_rfl) (HCS.out _ BSD.out.blk) (fun hHeld => ?_)
    refine wpAnyH_take (i := 0) (v := ?_) (by first | (simp only [List.getElem?_toArray, List.getElem?_cons_zero]; done) | (simp only [List.getElem?_toArray, List.getElem?_cons_zero]; rfl)) (by kernel_rfl) (by kernel_rfl) (by kernel_rfl) (by exact fun _ _ _ h => h) (Or.inl ⟨by rfl, ?_⟩) (by assumption) ?_
    rotate_left
    · (intro w hSw; (try dsimp only at hSw); first | (go_simp; done) | (go_simp; with_reducible rfl))
    simp only [Act.put, List.setIfInBounds_toArray, List.set_cons_zero, List.set_cons_succ]
    refine wpAnyH_take (i := 1) (v := ?_) (by first | (simp only [List.getElem?_toArray, List.getElem?_cons_succ, List.getElem?_cons_zero]; done) | (simp only [List.getElem?_toArray, List.getElem?_cons_succ, List.getElem?_cons_zero]; rfl)) (by kernel_rfl) (by kernel_rfl) (by kernel_rfl) (by exact fun _ _ _ h => h) (Or.inl ⟨by rfl, ?_⟩) (by assumption) ?_
    rotate_left
    · (intro w hSw; (try dsimp only at hSw); first | (go_simp; done) | (go_simp; with_reducible rfl))
    simp only [Act.put, List.setIfInBounds_toArray, List.set_cons_zero, List.set_cons_succ]
    refine wpAnyH_take (i := 2) (v := ?_) (by first | (simp only [List.getElem?_toArray, List.getElem?_cons_succ, List.getElem?_cons_zero]; done) | (simp only [List.getElem?_toArray, List.getElem?_cons_succ, List.getElem?_cons_zero]; rfl)) (by kernel_rfl) (by kernel_rfl) (by kernel_rfl) (by exact fun _ _ _ h => h) (Or.inl ⟨by rfl, ?_⟩) (by assumption) ?_
    rotate_left
    · (intro w hSw; (try dsimp only at hSw); first | (go_simp; done) | (go_simp; with_reducible rfl))
    simp only [Act.put, List.setIfInBounds_toArray, List.set_cons_zero, List.set_cons_succ]
    refine wpAnyH_take (i := 3) (v := ?_) (by first | (simp only [List.getElem?_toArray, List.getElem?_cons_succ, List.getElem?_cons_zero]; done) | (simp only [List.getElem?_toArray, List.getElem?_cons_succ, List.getElem?_cons_zero]; rfl)) (by kernel_rfl) (by kernel_rfl) (by kernel_rfl) (by exact fun _ _ _ h => h) (Or.inl ⟨by rfl, ?_⟩) (by assumption) ?_
    rotate_left
    · (intro w hSw; (try dsimp only at hSw); first | (go_simp; done) | (go_simp; with_reducible rfl))
    simp only [Act.put, List.setIfInBounds_toArray, List.set_cons_zero, List.set_cons_succ]
    refine wpAnyH_take (i := 4) (v := ?_) (by first | (simp only [List.getElem?_toArray, List.getElem?_cons_succ, List.getElem?_cons_zero]; done) | (simp only [List.getElem?_toArray, List.getElem?_cons_succ, List.getElem?_cons_zero]; rfl)) (by kernel_rfl) (by kernel_rfl) (by kernel_rfl) (by exact fun _ _ _ h => h) (Or.inl ⟨by rfl, ?_⟩) (by assumption) ?_
    rotate_left
    · (intro w hSw; (try dsimp only at hSw); first | (go_simp; done) | (go_simp; with_reducible rfl))
    simp only [Act.put, List.setIfInBounds_toArray, List.set_cons_zero, List.set_cons_succ]
    refine wpAnyH_take (i := 7) (v := ?_) (by first | (simp only [List.getElem?_toArray, List.getElem?_cons_succ, List.getElem?_cons_zero]; done) | (simp only [List.getElem?_toArray, List.getElem?_cons_succ, List.getElem?_cons_zero]; rfl)) (by kernel_rfl) (by kernel_rfl) (by kernel_rfl) (by exact fun _ _ _ h => h) (Or.inl ⟨by rfl, ?_⟩) (by assumption) ?_
    rotate_left
    · (intro w hSw; (try dsimp only at hSw); first | (go_simp; done) | (go_simp; with_reducible rfl))
    simp only [Act.put, List.setIfInBounds_toArray, List.set_cons_zero, List.set_cons_succ]
    refine wpAnyH_take (i := 8) (v := ?_) (by first | (simp only [List.getElem?_toArray, List.getElem?_cons_succ, List.getElem?_cons_zero]; done) | (simp only [List.getElem?_toArray, List.getElem?_cons_succ, List.getElem?_cons_zero]; rfl)) (by kernel_rfl) (by kernel_rfl) (by kernel_rfl) (by exact fun _ _ _ h => h) (Or.inl ⟨by rfl, ?_⟩) (by assumption) ?_
    rotate_left
    · (intro w hSw; (try dsimp only at hSw); first | (go_simp; done) | (go_simp; with_reducible rfl))
    simp only [Act.put, List.setIfInBounds_toArray, List.set_cons_zero, List.set_cons_succ]
    refine wpAnyH_take (i := 9) (v := ?_) (by first | (simp only [List.getElem?_toArray, List.getElem?_cons_succ, List.getElem?_cons_zero]; done) | (simp only [List.getElem?_toArray, List.getElem?_cons_succ, List.getElem?_cons_zero]; rfl)) (by kernel_rfl) (by kernel_rfl) (by kernel_rfl) (by exact fun _ _ _ h => h) (Or.inl ⟨by rfl, ?_⟩) (by assumption) ?_
    rotate_left
    · (intro w hSw; (try dsimp only at hSw); first | (go_simp; done) | (go_simp; with_reducible rfl))
    simp only [Act.put, List.setIfInBounds_toArray, List.set_cons_zero, List.set_cons_succ]
    refine wpAnyH_ready (rs := [5]) (by kernel_rfl) (by simp) ?_
    refine AllReadyH.cons (by first | (simp only [List.getElem?_toArray, List.getElem?_cons_succ, List.getElem?_cons_zero]; done) | (simp only [List.getElem?_toArray, List.getElem?_cons_succ, List.getElem?_cons_zero]; rfl)) (fun K hK => ?_) AllReadyH.nil
    go_simp
    refine (four_q addr had32 w1 _ (by have := BSD.out.bel; have := hszD; omega)).mono ?_
    rintro e X1 ⟨A1, c1, rfl, q1, b1⟩
    have BS1 := Lib.hid (BSD.out.below b1)
    have QR1 := Lib.hid q1
    have hzs1 : w1.heap.size ≤ X1.heap.size := Nat.le_trans hszD b1.size
    clear q1 b1
    go_wp2_with fail
    refine hK.out _ _ (HCS.out _ BS1.out.blk) (fun hHeld => ?_)
    clear hK K
    try simp only [Act.put, List.setIfInBounds_toArray, List.set_cons_zero, List.set_cons_succ]
    refine wpAnyH_ready (rs := [6]) (by kernel_rfl) (by simp) ?_
    refine AllReadyH.cons (by first | (simp only [List.getElem?_toArray, List.getElem?_cons_succ, List.getElem?_cons_zero]; done) | (simp only [List.getElem?_toArray, List.getElem?_cons_succ, List.getElem?_cons_zero]; rfl)) (fun K hK => ?_) AllReadyH.nil
    refine step_append_rd _ (by rfl) (.tmp 21) (.tmp 26) 25 (by rfl) (w.heap.size + 1) 5 i0 (.int .u8 0) 1 1 Tryd.underlying25 hi0 hz0 hz1 hz2 rfl (by omega) _ 22 (L0.map vb) (by rfl) BS1.out.own (fun _ => True) A1 4 c1 ((be 4 addr).map vb) (by rfl) (by simp [be_length]) (QR1.out.rd.mono (fun _ _ _ => trivial)) (vb_one _) (by unfold maxLen; omega) (by omega) (by have := BS1.out.bel.size; have := BS1.out.blk.lt; omega) ?_
    intro v2 X2 hown2 hg2 _
    obtain ⟨A2, c2, hv2, -, -, -, -⟩ := own_reads hown2
    subst hv2
    have BS2 := Lib.hid (BS1.out.app hown2 hg2)
    have hzs2 : w1.heap.size ≤ X2.heap.size := Nat.le_trans hzs1 hg2.size
    clear hown2 hg2
    refine hK.out _ _ (HCS.out _ BS2.out.blk) (fun hHeld => ?_)
    clear hK K
    try simp only [Act.put, List.setIfInBounds_toArray, List.set_cons_zero, List.set_cons_succ]
    refine wpAnyH_ready (rs := [10]) (by kernel_rfl) (by simp) ?_
    refine AllReadyH.cons (by first | (simp only [List.getElem?_toArray, List.getElem?_cons_succ, List.getElem?_cons_zero]; done) | (simp only [List.getElem?_toArray, List.getElem?_cons_succ, List.getElem?_cons_zero]; rfl)) (fun K hK => ?_) AllReadyH.nil
    go_simp
    refine (four_q a haL w1 _ (by have := BS2.out.bel; have := hzs2; omega)).mono ?_
    rintro e X3 ⟨A3, c3, rfl, q3, b3⟩
    have BS3 := Lib.hid (BS2.out.below b3)
    have QR3 := Lib.hid q3
    have hzs3 : w1.heap.size ≤ X3.heap.size := Nat.le_trans hzs2 b3.size
    clear q3 b3
    go_wp2_with fail
    refine hK.out _ _ (HCS.out _ BS3.out.blk) (fun hHeld => ?_)
    clear hK K
    try simp only [Act.put, List.setIfInBounds_toArray, List.set_cons_zero, List.set_cons_succ]
    refine wpAnyH_ready (rs := [11]) (by kernel_rfl) (by simp) ?_
    refine AllReadyH.cons (by first | (simp only [List.getElem?_toArray, List.getElem?_cons_succ, List.getElem?_cons_zero]; done) | (simp only [List.getElem?_toArray, List.getElem?_cons_succ, List.getElem?_cons_zero]; rfl)) (fun K hK => ?_) AllReadyH.nil
    refine step_append_rd _ (by rfl) (.tmp 27) (.tmp 31) 25 (by rfl) (w.heap.size + 1) 5 i0 (.int .u8 0) 1 1 Tryd.underlying25 hi0 hz0 hz1 hz2 rfl (by omega) _ 26 ((L0 ++ be 4 addr).map vb) (by rfl) BS3.out.own (fun _ => True) A3 4 c3 ((be 4 a).map vb) (by rfl) (by simp [be_length]) (QR3.out.rd.mono (fun _ _ _ => trivial)) (vb_one _) (by unfold maxLen; omega) (by omega) (by have := BS3.out.bel.size; have := BS3.out.blk.lt; omega) ?_
    intro v4 X4 hown4 hg4 _
    obtain ⟨A4, c4, hv4, -, -, -, -⟩ := own_reads hown4
    subst hv4
    have BS4 := Lib.hid (BS3.out.app hown4 hg4)
    have hzs4 : w1.heap.size ≤ X4.heap.size := Nat.le_trans hzs3 hg4.size
    clear hown4 hg4
    refine hK.out _ _ (HCS.out _ BS4.out.blk) (fun hHeld => ?_)
    clear hK K
    try simp only [Act.put, List.setIfInBounds_toArray, List.set_cons_zero, List.set_cons_succ]
    refine wpAnyH_take (i := 12) (v := ?_) (by first | (simp only [List.getElem?_toArray, List.getElem?_cons_succ, List.getElem?_cons_zero]; done) | (simp only [List.getElem?_toArray, List.getElem?_cons_succ, List.getElem?_cons_zero]; rfl)) (by kernel_rfl) (by kernel_rfl) (by kernel_rfl) (by exact fun _ _ _ h => h) (Or.inl ⟨by rfl, ?_⟩) (by assumption) ?_
    rotate_left
    · (intro w hSw; (try dsimp only at hSw); first | (go_simp; done) | (go_simp; with_reducible rfl))
    simp only [Act.put, List.setIfInBounds_toArray, List.set_cons_zero, List.set_cons_succ]
    refine wpAnyH_done (by kernel_rfl) ?_ _
    go_wp2_with fail
    go_meet
    exact ⟨_, _, rfl, BS4.out⟩
  case rest =>
    obtain ⟨A2, c2, rfl, hbs⟩ := hcut
    have BS2 := Lib.hid hbs
    clear hbs
    go_upto_region 5 with fail
    go_cut [3] (fun v wx => ∃ A c, v = .slice A 38 c ∧ BS w wx #[.int .i64 kind, .int .u32 id, .int .u32 addr, .int .i64 a, .int .i64 tm, .int .i64 reason, .int .u32 own, .slice sA sl sc, .slice cA cl cc, .string tx] A c 38 (List.replicate 22 0 ++ be 4 addr ++ be 4 a ++ be 4 id ++ be 4 tm))
    case first =>
      generalize hL0 : (List.replicate 22 0 ++ be 4 addr ++ be 4 a : List UInt8) = L0 at *
      have BSD := Lib.hid BS2.out.drew
      have hszD : wc.heap.size ≤ wc.drew.heap.size := Nat.le_refl _
      have HV0 := Lib.hid fun (k : Nat) (hk : (Value.slice A2 30 c2).ownBlock = some k) => (BS2.out.own.lt k hk).2
      refine wp_region_held_drew (S := (fun W => W.cell? ⟨w.heap.size, 0, none⟩ = some (.int .i64 kind) ∧ W.cell? ⟨w.heap.size, 1, none⟩ = some (.int .u32 id) ∧ W.cell? ⟨w.heap.size, 2, none⟩ = some (.int .u32 addr) ∧ W.cell? ⟨w.heap.size, 3, none⟩ = some (.int .i64 a) ∧ W.cell? ⟨w.heap.size, 4, none⟩ = some (.int .i64 tm) ∧ W.cell? ⟨w.heap.size, 5, none⟩ = some (.int .i64 reason) ∧ W.cell? ⟨w.heap.size, 6, none⟩ = some (.int .u32 own) ∧ W.cell? ⟨w.heap.size, 7, none⟩ = some (.slice sA sl sc) ∧ W.cell? ⟨w.heap.size, 8, none⟩ = some (.slice cA cl cc) ∧ W.cell? ⟨w.heap.size, 9, none⟩ = some (.string tx))) (by kernel_rfl) (HCS.out _ BSD.out.blk) (fun hHeld => ?_)
      refine wpAnyH_take (i := 0) (v := ?_) (by first | (simp only [List.getElem?_toArray, List.getElem?_cons_zero]; done) | (simp only [List.getElem?_toArray, List.getElem?_cons_zero]; rfl)) (by kernel_rfl) (by kernel_rfl) (by kernel_rfl) (by exact fun _ _ _ h => h) (Or.inl ⟨by rfl, ?_⟩) (by assumption) ?_
      rotate_left
      · (intro w hSw; (try dsimp only at hSw); first | (go_simp; done) | (go_simp; with_reducible rfl))
      simp only [Act.put, List.setIfInBounds_toArray, List.set_cons_zero, List.set_cons_succ]
      refine wpAnyH_take (i := 1) (v := ?_) (by first | (simp only [List.getElem?_toArray, List.getElem?_cons_succ, List.getElem?_cons_zero]; done) | (simp only [List.getElem?_toArray, List.getElem?_cons_succ, List.getElem?_cons_zero]; rfl)) (by kernel_rfl) (by kernel_rfl) (by kernel_rfl) (by exact fun _ _ _ h => h) (Or.inl ⟨by rfl, ?_⟩) (by assumption) ?_
      rotate_left
      · (intro w hSw; (try dsimp only at hSw); first | (go_simp; done) | (go_simp; with_reducible rfl))
      simp only [Act.put, List.setIfInBounds_toArray, List.set_cons_zero, List.set_cons_succ]
      refine wpAnyH_take (i := 2) (v := ?_) (by first | (simp only [List.getElem?_toArray, List.getElem?_cons_succ, List.getElem?_cons_zero]; done) | (simp only [List.getElem?_toArray, List.getElem?_cons_succ, List.getElem?_cons_zero]; rfl)) (by kernel_rfl) (by kernel_rfl) (by kernel_rfl) (by exact fun _ _ _ h => h) (Or.inl ⟨by rfl, ?_⟩) (by assumption) ?_
      rotate_left
      · (intro w hSw; (try dsimp only at hSw); first | (go_simp; done) | (go_simp; with_reducible rfl))
      simp only [Act.put, List.setIfInBounds_toArray, List.set_cons_zero, List.set_cons_succ]
      refine wpAnyH_take (i := 3) (v := ?_) (by first | (simp only [List.getElem?_toArray, List.getElem?_cons_succ, List.getElem?_cons_zero]; done) | (simp only [List.getElem?_toArray, List.getElem?_cons_succ, List.getElem?_cons_zero]; rfl)) (by kernel_rfl) (by kernel_rfl) (by kernel_rfl) (by exact fun _ _ _ h => h) (Or.inl ⟨by rfl, ?_⟩) (by assumption) ?_
      rotate_left
      · (intro w hSw; (try dsimp only at hSw); first | (go_simp; done) | (go_simp; with_reducible rfl))
      simp only [Act.put, List.setIfInBounds_toArray, List.set_cons_zero, List.set_cons_succ]
      refine wpAnyH_take (i := 4) (v := ?_) (by first | (simp only [List.getElem?_toArray, List.getElem?_cons_succ, List.getElem?_cons_zero]; done) | (simp only [List.getElem?_toArray, List.getElem?_cons_succ, List.getElem?_cons_zero]; rfl)) (by kernel_rfl) (by kernel_rfl) (by kernel_rfl) (by exact fun _ _ _ h => h) (Or.inl ⟨by rfl, ?_⟩) (by assumption) ?_
      rotate_left
      · (intro w hSw; (try dsimp only at hSw); first | (go_simp; done) | (go_simp; with_reducible rfl))
      simp only [Act.put, List.setIfInBounds_toArray, List.set_cons_zero, List.set_cons_succ]
      refine wpAnyH_take (i := 7) (v := ?_) (by first | (simp only [List.getElem?_toArray, List.getElem?_cons_succ, List.getElem?_cons_zero]; done) | (simp only [List.getElem?_toArray, List.getElem?_cons_succ, List.getElem?_cons_zero]; rfl)) (by kernel_rfl) (by kernel_rfl) (by kernel_rfl) (by exact fun _ _ _ h => h) (Or.inl ⟨by rfl, ?_⟩) (by assumption) ?_
      rotate_left
      · (intro w hSw; (try dsimp only at hSw); first | (go_simp; done) | (go_simp; with_reducible rfl))
      simp only [Act.put, List.setIfInBounds_toArray, List.set_cons_zero, List.set_cons_succ]
      refine wpAnyH_take (i := 8) (v := ?_) (by first | (simp only [List.getElem?_toArray, List.getElem?_cons_succ, List.getElem?_cons_zero]; done) | (simp only [List.getElem?_toArray, List.getElem?_cons_succ, List.getElem?_cons_zero]; rfl)) (by kernel_rfl) (by kernel_rfl) (by kernel_rfl) (by exact fun _ _ _ h => h) (Or.inl ⟨by rfl, ?_⟩) (by assumption) ?_
      rotate_left
      · (intro w hSw; (try dsimp only at hSw); first | (go_simp; done) | (go_simp; with_reducible rfl))
      simp only [Act.put, List.setIfInBounds_toArray, List.set_cons_zero, List.set_cons_succ]
      refine wpAnyH_ready (rs := [5]) (by kernel_rfl) (by simp) ?_
      refine AllReadyH.cons (by first | (simp only [List.getElem?_toArray, List.getElem?_cons_succ, List.getElem?_cons_zero]; done) | (simp only [List.getElem?_toArray, List.getElem?_cons_succ, List.getElem?_cons_zero]; rfl)) (fun K hK => ?_) AllReadyH.nil
      go_simp
      refine (four_q id hi32 wc _ (by have := BSD.out.bel; have := hszD; omega)).mono ?_
      rintro e X5 ⟨A5, c5, rfl, q5, b5⟩
      have BS5 := Lib.hid (BSD.out.below b5)
      have QR5 := Lib.hid q5
      have hzs5 : wc.heap.size ≤ X5.heap.size := Nat.le_trans hszD b5.size
      clear q5 b5
      go_wp2_with fail
      refine hK.out _ _ (HCS.out _ BS5.out.blk) (fun hHeld => ?_)
      clear hK K
      try simp only [Act.put, List.setIfInBounds_toArray, List.set_cons_zero, List.set_cons_succ]
      refine wpAnyH_ready (rs := [6]) (by kernel_rfl) (by simp) ?_
      refine AllReadyH.cons (by first | (simp only [List.getElem?_toArray, List.getElem?_cons_succ, List.getElem?_cons_zero]; done) | (simp only [List.getElem?_toArray, List.getElem?_cons_succ, List.getElem?_cons_zero]; rfl)) (fun K hK => ?_) AllReadyH.nil
      refine step_append_rd _ (by rfl) (.tmp 33) (.tmp 38) 25 (by rfl) (w.heap.size + 1) 5 i0 (.int .u8 0) 1 1 Tryd.underlying25 hi0 hz0 hz1 hz2 rfl (by omega) _ 30 (L0.map vb) (by rfl) BS5.out.own (fun _ => True) A5 4 c5 ((be 4 id).map vb) (by rfl) (by simp [be_length]) (QR5.out.rd.mono (fun _ _ _ => trivial)) (vb_one _) (by unfold maxLen; omega) (by omega) (by have := BS5.out.bel.size; have := BS5.out.blk.lt; omega) ?_
      intro v6 X6 hown6 hg6 _
      obtain ⟨A6, c6, hv6, -, -, -, -⟩ := own_reads hown6
      subst hv6
      have BS6 := Lib.hid (BS5.out.app hown6 hg6)
      have hzs6 : wc.heap.size ≤ X6.heap.size := Nat.le_trans hzs5 hg6.size
      clear hown6 hg6
      refine hK.out _ _ (HCS.out _ BS6.out.blk) (fun hHeld => ?_)
      clear hK K
      try simp only [Act.put, List.setIfInBounds_toArray, List.set_cons_zero, List.set_cons_succ]
      refine wpAnyH_ready (rs := [9]) (by kernel_rfl) (by simp) ?_
      refine AllReadyH.cons (by first | (simp only [List.getElem?_toArray, List.getElem?_cons_succ, List.getElem?_cons_zero]; done) | (simp only [List.getElem?_toArray, List.getElem?_cons_succ, List.getElem?_cons_zero]; rfl)) (fun K hK => ?_) AllReadyH.nil
      go_simp
      refine (four_q tm htL wc _ (by have := BS6.out.bel; have := hzs6; omega)).mono ?_
      rintro e X7 ⟨A7, c7, rfl, q7, b7⟩
      have BS7 := Lib.hid (BS6.out.below b7)
      have QR7 := Lib.hid q7
      have hzs7 : wc.heap.size ≤ X7.heap.size := Nat.le_trans hzs6 b7.size
      clear q7 b7
      go_wp2_with fail
      refine hK.out _ _ (HCS.out _ BS7.out.blk) (fun hHeld => ?_)
      clear hK K
      try simp only [Act.put, List.setIfInBounds_toArray, List.set_cons_zero, List.set_cons_succ]
      refine wpAnyH_ready (rs := [10]) (by kernel_rfl) (by simp) ?_
      refine AllReadyH.cons (by first | (simp only [List.getElem?_toArray, List.getElem?_cons_succ, List.getElem?_cons_zero]; done) | (simp only [List.getElem?_toArray, List.getElem?_cons_succ, List.getElem?_cons_zero]; rfl)) (fun K hK => ?_) AllReadyH.nil
      refine step_append_rd _ (by rfl) (.tmp 39) (.tmp 42) 25 (by rfl) (w.heap.size + 1) 5 i0 (.int .u8 0) 1 1 Tryd.underlying25 hi0 hz0 hz1 hz2 rfl (by omega) _ 34 ((L0 ++ be 4 id).map vb) (by rfl) BS7.out.own (fun _ => True) A7 4 c7 ((be 4 tm).map vb) (by rfl) (by simp [be_length]) (QR7.out.rd.mono (fun _ _ _ => trivial)) (vb_one _) (by unfold maxLen; omega) (by omega) (by have := BS7.out.bel.size; have := BS7.out.blk.lt; omega) ?_
      intro v8 X8 hown8 hg8 _
      obtain ⟨A8, c8, hv8, -, -, -, -⟩ := own_reads hown8
      subst hv8
      have BS8 := Lib.hid (BS7.out.app hown8 hg8)
      have hzs8 : wc.heap.size ≤ X8.heap.size := Nat.le_trans hzs7 hg8.size
      clear hown8 hg8
      refine hK.out _ _ (HCS.out _ BS8.out.blk) (fun hHeld => ?_)
      clear hK K
      try simp only [Act.put, List.setIfInBounds_toArray, List.set_cons_zero, List.set_cons_succ]
      refine wpAnyH_take (i := 11) (v := ?_) (by first | (simp only [List.getElem?_toArray, List.getElem?_cons_succ, List.getElem?_cons_zero]; done) | (simp only [List.getElem?_toArray, List.getElem?_cons_succ, List.getElem?_cons_zero]; rfl)) (by kernel_rfl) (by kernel_rfl) (by kernel_rfl) (by exact fun _ _ _ h => h) (Or.inl ⟨by rfl, ?_⟩) (by assumption) ?_
      rotate_left
      · (intro w hSw; (try dsimp only at hSw); first | (go_simp; done) | (go_simp; with_reducible rfl))
      simp only [Act.put, List.setIfInBounds_toArray, List.set_cons_zero, List.set_cons_succ]
      refine wpAnyH_done (by kernel_rfl) ?_ _
      go_wp2_with fail
      go_meet
      exact ⟨_, _, rfl, BS8.out⟩
    case rest =>
      obtain ⟨A3, c3, rfl, hbs⟩ := hcut
      have BS3 := Lib.hid hbs
      clear hbs
      have BS3b := BS3.out
      clear BS3
      generalize hL3 : (List.replicate 22 0 ++ be 4 addr ++ be 4 a ++ be 4 id ++ be 4 tm : List UInt8) = L3 at *
      have HL3 := Lib.hid hL3
      clear hL3
      obtain ⟨D4, hD4⟩ : ∃ D4 : List UInt8, D4 = List.replicate 4 0 := ⟨_, rfl⟩
      have hd4 : D4.length = 4 := by rw [hD4]; rfl
      have HD4 := Lib.hid hD4
      have b4 := below_a1 wc (.cells #[.int .u8 0, .int .u8 0, .int .u8 0, .int .u8 0] 5)
      have BS3a := Lib.hid (BS3b.below b4)
      have RZ : Reads (wc.alloc (.cells #[.int .u8 0, .int .u8 0, .int .u8 0, .int .u8 0] 5)) (fun _ => True) (some ⟨wc.heap.size, 0, none⟩) (D4.map vb) := by
        rw [hD4]
        exact (reads_of_blk (Blk.new wc 5 #[.int .u8 0, .int .u8 0, .int .u8 0, .int .u8 0])).mono (fun _ _ _ => trivial)
      clear b4 hD4
      go_wp2_with (refine wpList_append_rd _ (by rfl) (.tmp 44) (.tmp 45) 25 rfl (w.heap.size + 1) 5 i0 (.int .u8 0) 1 1 Tryd.underlying25 hi0 hz0 hz1 hz2 rfl (by omega) _ 38 ((L3).map vb) (by rfl) BS3a.out.own (fun _ => True) (some ⟨wc.heap.size, 0, none⟩) 4 4 ((D4).map vb) (by rfl) (by simp [*]) RZ (vb_one _) (by unfold maxLen; omega) (by omega) (by have := BS3a.out.bel.size; have := BS3a.out.blk.lt; omega) ?_)
      intro v4 w4 hown4 hg4 _
      obtain ⟨A4, c4, hv4, -, -, -, -⟩ := own_reads hown4
      subst hv4
      have BS4b : BS w w4 #[.int .i64 kind, .int .u32 id, .int .u32 addr, .int .i64 a, .int .i64 tm, .int .i64 reason, .int .u32 own, .slice sA sl sc, .slice cA cl cc, .string tx] A4 c4 42 (L3 ++ D4) := BS3a.out.app (m := 4) (D := D4) hown4 hg4
      generalize hL4 : (L3 ++ D4 : List UInt8) = L4 at *
      have HL4 := Lib.hid hL4
      clear hL4
      have BS4 := Lib.hid BS4b
      obtain ⟨q0, q1, q2, q3, q4, q5, q6, q7, q8, q9⟩ := HCS.out _ BS4.out.blk
      clear hown4 hg4 RZ BS3a BS4b BS3b hd4
      rcases HMS with rfl | ⟨rfl, hr1, hr4⟩ | rfl
      · clear q0 q1 q2 q3 q4 q5 q6 q7 q8 q9
        obtain ⟨q0, q1, q2, q3, q4, q5, q6, q7, q8, q9⟩ := HCS.out _ BS4.out.blk
        have RC := (HRC.out.below BS4.out.bel (fun _ _ h => h)).mono (G := fun _ => True) (fun _ _ _ => trivial)
        have hle := HBL.out
        have hlb : body.length = 42 + cl := by rw [HB.out, HMID.out]; simp [be_length, HCL.out]; try omega
        have hcl := HCL.out
        subst hcl
        go_wp2_with (refine wpList_append_rd _ (by rfl) (.tmp 72) (.tmp 74) 25 rfl (w.heap.size + 1) 5 i0 (.int .u8 0) 1 1 Tryd.underlying25 hi0 hz0 hz1 hz2 rfl (by omega) _ 42 ((L4).map vb) (by rfl) BS4.out.own (fun _ => True) cA came.length cc ((came).map vb) (by rfl) (by simp) RC (vb_one _) (by unfold maxLen; omega) (by omega) (by have := BS4.out.bel.size; have := BS4.out.blk.lt; omega) ?_)
        intro v9 w9 hown9 hg9 _
        obtain ⟨A9, c9, hv9, -, -, -, -⟩ := own_reads hown9
        subst hv9
        have BS9 := BS4.out.app hown9 hg9
        go_wp2_with fail
        go_ret
        have hE : (L4) ++ came = body := by rw [HB.out, HMID.out]; simp [← HL4.out, ← HL3.out, HD4.out]
        rw [hlb]
        refine ⟨A9, c9, rfl, ?_, BS9.bel⟩
        have h := own_mono BS9.own (Nat.le_succ w.heap.size)
        rw [hE] at h
        exact h
      · obtain ⟨r, rfl⟩ : ∃ r : Nat, reason = r := ⟨reason.toNat, by omega⟩
        have hr256 : ((r : Int)) % 256 = (r : Int) := by omega
        obtain ⟨D1, hD1⟩ : ∃ D1 : List UInt8, D1 = be 1 r := ⟨_, rfl⟩
        have hd1 : D1.length = 1 := by rw [hD1]; simp [be_length]
        have HD1 := Lib.hid hD1
        have b5 := below_a1 w4 (.cells #[.int .u8 r] 5)
        have BS4a := Lib.hid (BS4.out.below b5)
        have hvb : vb (UInt8.ofNat r) = .int .u8 (r : Int) := by simp only [vb]; rw [UInt8.toNat_ofNat', Nat.mod_eq_of_lt (by omega)]
        have RZ : Reads (w4.alloc (.cells #[.int .u8 r] 5)) (fun _ => True) (some ⟨w4.heap.size, 0, none⟩) (D1.map vb) := by
          have h := (reads_of_blk (Blk.new w4 5 #[.int .u8 r])).mono (G := fun _ => True) (fun _ _ _ => trivial)
          have e : (be 1 r).map vb = [.int .u8 (r : Int)] := by simp [be, hvb]
          rw [hD1, e]; exact h
        clear b5 hvb hD1
        go_wp2_with (refine wpList_append_rd _ (by rfl) (.tmp 51) (.tmp 55) 25 rfl (w.heap.size + 1) 5 i0 (.int .u8 0) 1 1 Tryd.underlying25 hi0 hz0 hz1 hz2 rfl (by omega) _ 42 ((L4).map vb) (by rfl) BS4a.out.own (fun _ => True) (some ⟨w4.heap.size, 0, none⟩) 1 1 ((D1).map vb) (by rfl) (by simp [*]) RZ (vb_one _) (by unfold maxLen; omega) (by omega) (by have := BS4a.out.bel.size; have := BS4a.out.blk.lt; omega) ?_)
        intro v5 w5 hown5 hg5 _
        obtain ⟨A5, c5, hv5, -, -, -, -⟩ := own_reads hown5
        subst hv5
        have BS5b : BS w w5 #[.int .i64 2, .int .u32 id, .int .u32 addr, .int .i64 a, .int .i64 tm, .int .i64 r, .int .u32 own, .slice sA sl sc, .slice cA cl cc, .string tx] A5 c5 43 (L4 ++ D1) := BS4a.out.app (m := 1) (D := D1) hown5 hg5
        generalize hL5 : (L4 ++ D1 : List UInt8) = L5 at *
        have HL5 := Lib.hid hL5
        clear hL5
        have BS5 := Lib.hid BS5b
        clear hown5 hg5 RZ BS4a BS5b hd1 q0 q1 q2 q3 q4 q5 q6 q7 q8 q9
        obtain ⟨q0, q1, q2, q3, q4, q5, q6, q7, q8, q9⟩ := HCS.out _ BS5.out.blk
        have RC := (HRC.out.below BS5.out.bel (fun _ _ h => h)).mono (G := fun _ => True) (fun _ _ _ => trivial)
        have hle := HBL.out
        have hlb : body.length = 43 + cl := by rw [HB.out, HMID.out]; simp [be_length, HCL.out]; try omega
        have hcl := HCL.out
        subst hcl
        go_wp2_with (refine wpList_append_rd _ (by rfl) (.tmp 72) (.tmp 74) 25 rfl (w.heap.size + 1) 5 i0 (.int .u8 0) 1 1 Tryd.underlying25 hi0 hz0 hz1 hz2 rfl (by omega) _ 43 ((L5).map vb) (by rfl) BS5.out.own (fun _ => True) cA came.length cc ((came).map vb) (by rfl) (by simp) RC (vb_one _) (by unfold maxLen; omega) (by omega) (by have := BS5.out.bel.size; have := BS5.out.blk.lt; omega) ?_)
        intro v9 w9 hown9 hg9 _
        obtain ⟨A9, c9, hv9, -, -, -, -⟩ := own_reads hown9
        subst hv9
        have BS9 := BS5.out.app hown9 hg9
        go_wp2_with fail
        go_ret
        have hE : (L5) ++ came = body := by rw [HB.out, HMID.out]; simp [← HL5.out, ← HL4.out, ← HL3.out, HD4.out, HD1.out]
        rw [hlb]
        refine ⟨A9, c9, rfl, ?_, BS9.bel⟩
        have h := own_mono BS9.own (Nat.le_succ w.heap.size)
        rw [hE] at h
        exact h
      · go_upto_region 11 with fail
        go_cut [3] (fun v wx => ∃ A c, v = .slice A 58 c ∧ BS w wx #[.int .i64 3, .int .u32 id, .int .u32 addr, .int .i64 a, .int .i64 tm, .int .i64 reason, .int .u32 own, .slice sA sl sc, .slice cA cl cc, .string tx] A c 58 (L4 ++ List.replicate 12 0 ++ be 4 own))
        case first =>
          have BSD := Lib.hid BS4.out.drew
          have hszD : w4.heap.size ≤ w4.drew.heap.size := Nat.le_refl _
          have HV0 := Lib.hid fun (k : Nat) (hk : (Value.slice A4 42 c4).ownBlock = some k) => (BS4.out.own.lt k hk).2
          refine wp_region_held_drew (S := (fun W => W.cell? ⟨w.heap.size, 0, none⟩ = some (.int .i64 3) ∧ W.cell? ⟨w.heap.size, 1, none⟩ = some (.int .u32 id) ∧ W.cell? ⟨w.heap.size, 2, none⟩ = some (.int .u32 addr) ∧ W.cell? ⟨w.heap.size, 3, none⟩ = some (.int .i64 a) ∧ W.cell? ⟨w.heap.size, 4, none⟩ = some (.int .i64 tm) ∧ W.cell? ⟨w.heap.size, 5, none⟩ = some (.int .i64 reason) ∧ W.cell? ⟨w.heap.size, 6, none⟩ = some (.int .u32 own) ∧ W.cell? ⟨w.heap.size, 7, none⟩ = some (.slice sA sl sc) ∧ W.cell? ⟨w.heap.size, 8, none⟩ = some (.slice cA cl cc) ∧ W.cell? ⟨w.heap.size, 9, none⟩ = some (.string tx))) (by kernel_rfl) (HCS.out _ BSD.out.blk) (fun hHeld => ?_)
          refine wpAnyH_take (i := 0) (v := ?_) (by first | (simp only [List.getElem?_toArray, List.getElem?_cons_zero]; done) | (simp only [List.getElem?_toArray, List.getElem?_cons_zero]; rfl)) (by kernel_rfl) (by kernel_rfl) (by kernel_rfl) (by exact fun _ _ _ h => h) (Or.inl ⟨by rfl, ?_⟩) (by assumption) ?_
          rotate_left
          · (intro w hSw; (try dsimp only at hSw); first | (go_simp; done) | (go_simp; with_reducible rfl))
          simp only [Act.put, List.setIfInBounds_toArray, List.set_cons_zero, List.set_cons_succ]
          refine wpAnyH_take (i := 2) (v := ?_) (by first | (simp only [List.getElem?_toArray, List.getElem?_cons_succ, List.getElem?_cons_zero]; done) | (simp only [List.getElem?_toArray, List.getElem?_cons_succ, List.getElem?_cons_zero]; rfl)) (by kernel_rfl) (by kernel_rfl) (by kernel_rfl) (by exact fun _ _ _ h => h) (Or.inl ⟨by rfl, ?_⟩) (by assumption) ?_
          rotate_left
          · (intro w hSw; (try dsimp only at hSw); first | (go_simp; done) | (go_simp; with_reducible rfl))
          simp only [Act.put, List.setIfInBounds_toArray, List.set_cons_zero, List.set_cons_succ]
          refine wpAnyH_take (i := 3) (v := ?_) (by first | (simp only [List.getElem?_toArray, List.getElem?_cons_succ, List.getElem?_cons_zero]; done) | (simp only [List.getElem?_toArray, List.getElem?_cons_succ, List.getElem?_cons_zero]; rfl)) (by kernel_rfl) (by kernel_rfl) (by kernel_rfl) (by exact fun _ _ _ h => h) (Or.inl ⟨by rfl, ?_⟩) (by assumption) ?_
          rotate_left
          · (intro w hSw; (try dsimp only at hSw); first | (go_simp; done) | (go_simp; with_reducible rfl))
          simp only [Act.put, List.setIfInBounds_toArray, List.set_cons_zero, List.set_cons_succ]
          refine wpAnyH_take (i := 4) (v := ?_) (by first | (simp only [List.getElem?_toArray, List.getElem?_cons_succ, List.getElem?_cons_zero]; done) | (simp only [List.getElem?_toArray, List.getElem?_cons_succ, List.getElem?_cons_zero]; rfl)) (by kernel_rfl) (by kernel_rfl) (by kernel_rfl) (by exact fun _ _ _ h => h) (Or.inl ⟨by rfl, ?_⟩) (by assumption) ?_
          rotate_left
          · (intro w hSw; (try dsimp only at hSw); first | (go_simp; done) | (go_simp; with_reducible rfl))
          simp only [Act.put, List.setIfInBounds_toArray, List.set_cons_zero, List.set_cons_succ]
          refine wpAnyH_ready (rs := [1]) (by kernel_rfl) (by simp) ?_
          refine AllReadyH.cons (by first | (simp only [List.getElem?_toArray, List.getElem?_cons_succ, List.getElem?_cons_zero]; done) | (simp only [List.getElem?_toArray, List.getElem?_cons_succ, List.getElem?_cons_zero]; rfl)) (fun K hK => ?_) AllReadyH.nil
          refine step_append_zeros _ (by rfl) (.tmp 59) (.const (.int .i64 12)) 25 3 9 (by rfl) (w.heap.size + 1) 5 i0 Tryd.underlying25 Tryd.underlying3 Tryd.underlying9 hi0 hz0 hz1 hz2 A4 42 c4 12 ((L4).map vb) (by rfl) BSD.out.own (by rfl) (by omega) (by omega) (by have := BSD.out.bel.size; have := BSD.out.blk.lt; omega) ?_
          intro vm1 Xm1 hownm1 hgm1
          obtain ⟨Am1, cm1, hvm1, -, -, -, -⟩ := own_reads hownm1
          subst hvm1
          have BSm1 := Lib.hid (BSD.out.app hownm1 hgm1)
          have hzm1 : w4.heap.size ≤ Xm1.heap.size := hgm1.size
          clear hownm1 hgm1
          refine hK.out _ _ (HCS.out _ BSm1.out.blk) (fun hHeld => ?_)
          clear hK K
          try simp only [Act.put, List.setIfInBounds_toArray, List.set_cons_zero, List.set_cons_succ]
          refine wpAnyH_ready (rs := [5]) (by kernel_rfl) (by simp) ?_
          refine AllReadyH.cons (by first | (simp only [List.getElem?_toArray, List.getElem?_cons_succ, List.getElem?_cons_zero]; done) | (simp only [List.getElem?_toArray, List.getElem?_cons_succ, List.getElem?_cons_zero]; rfl)) (fun K hK => ?_) AllReadyH.nil
          go_simp
          refine (four_q own ho32 w4 _ (by have := BSm1.out.bel.size; have := hzm1; omega)).mono ?_
          rintro e Xm2 ⟨Am2, cm2, rfl, qm2, bm2⟩
          have BSm2 := Lib.hid (BSm1.out.below bm2)
          have QRm2 := Lib.hid qm2
          clear qm2 bm2
          go_wp2_with fail
          refine hK.out _ _ (HCS.out _ BSm2.out.blk) (fun hHeld => ?_)
          clear hK K
          try simp only [Act.put, List.setIfInBounds_toArray, List.set_cons_zero, List.set_cons_succ]
          refine wpAnyH_ready (rs := [6]) (by kernel_rfl) (by simp) ?_
          refine AllReadyH.cons (by first | (simp only [List.getElem?_toArray, List.getElem?_cons_succ, List.getElem?_cons_zero]; done) | (simp only [List.getElem?_toArray, List.getElem?_cons_succ, List.getElem?_cons_zero]; rfl)) (fun K hK => ?_) AllReadyH.nil
          refine step_append_rd _ (by rfl) (.tmp 60) (.tmp 64) 25 (by rfl) (w.heap.size + 1) 5 i0 (.int .u8 0) 1 1 Tryd.underlying25 hi0 hz0 hz1 hz2 rfl (by omega) _ 54 ((L4 ++ List.replicate 12 0).map vb) (by rfl) BSm2.out.own (fun _ => True) Am2 4 cm2 ((be 4 own).map vb) (by rfl) (by simp [be_length]) (QRm2.out.rd.mono (fun _ _ _ => trivial)) (vb_one _) (by unfold maxLen; omega) (by omega) (by have := BSm2.out.bel.size; have := BSm2.out.blk.lt; omega) ?_
          intro vm3 Xm3 hownm3 hgm3 _
          obtain ⟨Am3, cm3, hvm3, -, -, -, -⟩ := own_reads hownm3
          subst hvm3
          have BSm3 := Lib.hid (BSm2.out.app hownm3 hgm3)
          clear hownm3 hgm3
          refine hK.out _ _ (HCS.out _ BSm3.out.blk) (fun hHeld => ?_)
          clear hK K
          try simp only [Act.put, List.setIfInBounds_toArray, List.set_cons_zero, List.set_cons_succ]
          refine wpAnyH_take (i := 7) (v := ?_) (by first | (simp only [List.getElem?_toArray, List.getElem?_cons_succ, List.getElem?_cons_zero]; done) | (simp only [List.getElem?_toArray, List.getElem?_cons_succ, List.getElem?_cons_zero]; rfl)) (by kernel_rfl) (by kernel_rfl) (by kernel_rfl) (by exact fun _ _ _ h => h) (Or.inl ⟨by rfl, ?_⟩) (by assumption) ?_
          rotate_left
          · (intro w hSw; (try dsimp only at hSw); first | (go_simp; done) | (go_simp; with_reducible rfl))
          simp only [Act.put, List.setIfInBounds_toArray, List.set_cons_zero, List.set_cons_succ]
          refine wpAnyH_done (by kernel_rfl) ?_ _
          go_wp2_with fail
          go_meet
          exact ⟨_, _, rfl, BSm3.out⟩
        case rest =>
          obtain ⟨A6, c6, rfl, hbs⟩ := hcut
          generalize hLA : (L4 ++ List.replicate 12 0 : List UInt8) = LA at *
          have HLA := Lib.hid hLA
          clear hLA
          generalize hLB : (LA ++ be 4 own : List UInt8) = LB at *
          have HLB := Lib.hid hLB
          clear hLB
          have BS6 := Lib.hid hbs
          have hsl := HSL.out
          have hle := HBL.out
          have hlb : body.length = 62 + sl + cl := by rw [HB.out, HMID.out]; simp [be_length, HCL.out, HSL.out]; omega
          clear hbs q0 q1 q2 q3 q4 q5 q6 q7 q8 q9
          obtain ⟨D6, hD6⟩ : ∃ D6 : List UInt8, D6 = be 4 11731123 := ⟨_, rfl⟩
          have hd6 : D6.length = 4 := by rw [hD6]; simp [be_length]
          have HD6 := Lib.hid hD6
          have b6 := below_a1 wc (.cells #[.int .u8 0, .int .u8 179, .int .u8 0, .int .u8 179] 5)
          have BS6a := Lib.hid (BS6.out.below b6).drew
          have RZ : Reads (wc.alloc (.cells #[.int .u8 0, .int .u8 179, .int .u8 0, .int .u8 179] 5)).drew (fun _ => True) (some ⟨wc.heap.size, 0, none⟩) (D6.map vb) := by
            rw [hD6]
            exact (reads_of_blk (Blk.new wc 5 #[.int .u8 0, .int .u8 179, .int .u8 0, .int .u8 179])).mono (fun _ _ _ => trivial)
          clear b6 hD6
          subst hsl
          go_upto_region 12 with fail
          refine wp_region_held_drew (S := (fun W => W.cell? ⟨w.heap.size, 0, none⟩ = some (.int .i64 3) ∧ W.cell? ⟨w.heap.size, 1, none⟩ = some (.int .u32 id) ∧ W.cell? ⟨w.heap.size, 2, none⟩ = some (.int .u32 addr) ∧ W.cell? ⟨w.heap.size, 3, none⟩ = some (.int .i64 a) ∧ W.cell? ⟨w.heap.size, 4, none⟩ = some (.int .i64 tm) ∧ W.cell? ⟨w.heap.size, 5, none⟩ = some (.int .i64 reason) ∧ W.cell? ⟨w.heap.size, 6, none⟩ = some (.int .u32 own) ∧ W.cell? ⟨w.heap.size, 7, none⟩ = some (.slice sA sent.length sc) ∧ W.cell? ⟨w.heap.size, 8, none⟩ = some (.slice cA cl cc) ∧ W.cell? ⟨w.heap.size, 9, none⟩ = some (.string tx))) (by kernel_rfl) (HCS.out _ BS6.out.drew.blk) (fun hHeld => ?_)
          refine wpAnyH_take (i := 0) (v := ?_) (by first | (simp only [List.getElem?_toArray, List.getElem?_cons_zero]; done) | (simp only [List.getElem?_toArray, List.getElem?_cons_zero]; rfl)) (by kernel_rfl) (by kernel_rfl) (by kernel_rfl) (by exact fun _ _ _ h => h) (Or.inl ⟨by rfl, ?_⟩) (by assumption) ?_
          rotate_left
          · (intro w hSw; (try dsimp only at hSw); first | (go_simp; done) | (go_simp; with_reducible rfl))
          simp only [Act.put, List.setIfInBounds_toArray, List.set_cons_zero, List.set_cons_succ]
          refine wpAnyH_take (i := 3) (v := ?_) (by first | (simp only [List.getElem?_toArray, List.getElem?_cons_succ, List.getElem?_cons_zero]; done) | (simp only [List.getElem?_toArray, List.getElem?_cons_succ, List.getElem?_cons_zero]; rfl)) (by kernel_rfl) (by kernel_rfl) (by kernel_rfl) (by exact fun _ _ _ h => h) (Or.inl ⟨by rfl, ?_⟩) (by assumption) ?_
          rotate_left
          · (intro w hSw; (try dsimp only at hSw); first | (go_simp; done) | (go_simp; with_reducible rfl))
          simp only [Act.put, List.setIfInBounds_toArray, List.set_cons_zero, List.set_cons_succ]
          refine wpAnyH_take (i := 4) (v := ?_) (by first | (simp only [List.getElem?_toArray, List.getElem?_cons_succ, List.getElem?_cons_zero]; done) | (simp only [List.getElem?_toArray, List.getElem?_cons_succ, List.getElem?_cons_zero]; rfl)) (by kernel_rfl) (by kernel_rfl) (by kernel_rfl) (by exact fun _ _ _ h => h) (Or.inl ⟨by rfl, ?_⟩) (by assumption) ?_
          rotate_left
          · (intro w hSw; (try dsimp only at hSw); first | (go_simp; done) | (go_simp; with_reducible rfl))
          simp only [Act.put, List.setIfInBounds_toArray, List.set_cons_zero, List.set_cons_succ]
          refine wpAnyH_ready (rs := [1]) (by kernel_rfl) (by simp) ?_
          refine AllReadyH.cons (by first | (simp only [List.getElem?_toArray, List.getElem?_cons_succ, List.getElem?_cons_zero]; done) | (simp only [List.getElem?_toArray, List.getElem?_cons_succ, List.getElem?_cons_zero]; rfl)) (fun K hK => ?_) AllReadyH.nil
          go_simp
          refine hK.out _ _ (HCS.out _ BS6a.out.blk) (fun hHeld => ?_)
          clear hK K
          try simp only [Act.put, List.setIfInBounds_toArray, List.set_cons_zero, List.set_cons_succ]
          refine wpAnyH_ready (rs := [2]) (by kernel_rfl) (by simp) ?_
          refine AllReadyH.cons (by first | (simp only [List.getElem?_toArray, List.getElem?_cons_succ, List.getElem?_cons_zero]; done) | (simp only [List.getElem?_toArray, List.getElem?_cons_succ, List.getElem?_cons_zero]; rfl)) (fun K hK => ?_) AllReadyH.nil
          refine step_append_rd _ (by rfl) (.tmp 66) (.tmp 67) 25 (by rfl) (w.heap.size + 1) 5 i0 (.int .u8 0) 1 1 Tryd.underlying25 hi0 hz0 hz1 hz2 rfl (by omega) _ 58 ((LB).map vb) (by rfl) BS6a.out.own (fun _ => True) (some ⟨wc.heap.size, 0, none⟩) 4 4 ((D6).map vb) (by rfl) (by simp [*]) (RZ) (vb_one _) (by unfold maxLen; omega) (by omega) (by have := BS6a.out.bel.size; have := BS6a.out.blk.lt; omega) ?_
          intro v7 w7 hown7 hg7 _
          obtain ⟨A7, c7, hv7, -, -, -, -⟩ := own_reads hown7
          subst hv7
          have BS7b : BS w w7 #[.int .i64 3, .int .u32 id, .int .u32 addr, .int .i64 a, .int .i64 tm, .int .i64 reason, .int .u32 own, .slice sA sent.length sc, .slice cA cl cc, .string tx] A7 c7 62 (LB ++ D6) := BS6a.out.app (m := 4) (D := D6) hown7 hg7
          generalize hL6 : (LB ++ D6 : List UInt8) = L6 at *
          have HL6 := Lib.hid hL6
          clear hL6
          have BS7 := Lib.hid BS7b
          clear hown7 hg7 BS7b hd6
          refine hK.out _ _ (HCS.out _ BS7.out.blk) (fun hHeld => ?_)
          clear hK K
          try simp only [Act.put, List.setIfInBounds_toArray, List.set_cons_zero, List.set_cons_succ]
          have RS7 := (HRS.out.below BS7.out.bel (fun _ _ h => h)).mono (G := fun _ => True) (fun _ _ _ => trivial)
          refine wpAnyH_ready (rs := [5]) (by kernel_rfl) (by simp) ?_
          refine AllReadyH.cons (by first | (simp only [List.getElem?_toArray, List.getElem?_cons_succ, List.getElem?_cons_zero]; done) | (simp only [List.getElem?_toArray, List.getElem?_cons_succ, List.getElem?_cons_zero]; rfl)) (fun K hK => ?_) AllReadyH.nil
          refine step_append_rd _ (by rfl) (.tmp 68) (.tmp 70) 25 (by rfl) (w.heap.size + 1) 5 i0 (.int .u8 0) 1 1 Tryd.underlying25 hi0 hz0 hz1 hz2 rfl (by omega) _ 62 ((L6).map vb) (by rfl) BS7.out.own (fun _ => True) sA sent.length sc ((sent).map vb) (by rfl) (by simp) (RS7) (vb_one _) (by unfold maxLen; omega) (by omega) (by have := BS7.out.bel.size; have := BS7.out.blk.lt; omega) ?_
          intro v8 w8 hown8 hg8 _
          obtain ⟨A8, c8, hv8, -, -, -, -⟩ := own_reads hown8
          subst hv8
          have BS8b := BS7.out.app hown8 hg8
          generalize hL7 : (L6 ++ sent : List UInt8) = L7 at *
          have HL7 := Lib.hid hL7
          clear hL7
          have BS8 := Lib.hid BS8b
          clear hown8 hg8 BS8b RS7 RZ
          refine hK.out _ _ (HCS.out _ BS8.out.blk) (fun hHeld => ?_)
          clear hK K
          try simp only [Act.put, List.setIfInBounds_toArray, List.set_cons_zero, List.set_cons_succ]
          refine wpAnyH_take (i := 6) (v := ?_) (by first | (simp only [List.getElem?_toArray, List.getElem?_cons_succ, List.getElem?_cons_zero]; done) | (simp only [List.getElem?_toArray, List.getElem?_cons_succ, List.getElem?_cons_zero]; rfl)) (by kernel_rfl) (by kernel_rfl) (by kernel_rfl) (by exact fun _ _ _ h => h) (Or.inl ⟨by rfl, ?_⟩) (by assumption) ?_
          rotate_left
          · (intro w hSw; (try dsimp only at hSw); first | (go_simp; done) | (go_simp; with_reducible rfl))
          simp only [Act.put, List.setIfInBounds_toArray, List.set_cons_zero, List.set_cons_succ]
          refine wpAnyH_done (by kernel_rfl) ?_ _
          clear hlb hle
          obtain ⟨q0, q1, q2, q3, q4, q5, q6, q7, q8, q9⟩ := HCS.out _ BS8.out.blk
          have RC := (HRC.out.below BS8.out.bel (fun _ _ h => h)).mono (G := fun _ => True) (fun _ _ _ => trivial)
          have hle := HBL.out
          have hlb : body.length = (62 + sent.length) + cl := by rw [HB.out, HMID.out]; simp [be_length, HCL.out]; try omega
          have hcl := HCL.out
          subst hcl
          go_wp2_with (refine wpList_append_rd _ (by rfl) (.tmp 72) (.tmp 74) 25 rfl (w.heap.size + 1) 5 i0 (.int .u8 0) 1 1 Tryd.underlying25 hi0 hz0 hz1 hz2 rfl (by omega) _ (62 + sent.length) ((L7).map vb) (by rfl) BS8.out.own (fun _ => True) cA came.length cc ((came).map vb) (by rfl) (by simp) RC (vb_one _) (by unfold maxLen; omega) (by omega) (by have := BS8.out.bel.size; have := BS8.out.blk.lt; omega) ?_)
          intro v9 w9 hown9 hg9 _
          obtain ⟨A9, c9, hv9, -, -, -, -⟩ := own_reads hown9
          subst hv9
          have BS9 := BS8.out.app hown9 hg9
          go_wp2_with fail
          go_ret
          have hE : (L7) ++ came = body := by rw [HB.out, HMID.out]; simp [← HL7.out, ← HL6.out, ← HLB.out, ← HLA.out, ← HL4.out, ← HL3.out, HD4.out, HD6.out]
          rw [hlb]
          refine ⟨A9, c9, rfl, ?_, BS9.bel⟩
          have h := own_mono BS9.own (Nat.le_succ w.heap.size)
          rw [hE] at h
          exact h
end Go.Proofs.YtbmbpcibihddaaaDoor
