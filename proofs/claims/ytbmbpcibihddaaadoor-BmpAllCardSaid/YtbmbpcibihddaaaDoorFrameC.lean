/-
  Heads: what any bytes are as a head. No condition but that bytes read as data and the table of least lengths as it is laid.
-/
import Derived.Test.YtbmbpcibihddaaaDoorFrameB
namespace Go.Proofs.YtbmbpcibihddaaaDoor
open Go.ChangeShapes Go.WideShapes Go.ChangeAt Go.RowKit

/-- what bytes are as a head: a type, a length, or what is wrong -/
structure HR where
  k : Int
  n : Int
  code : Int
  sub : Int
  d : List UInt8
def headOf (m : List UInt8) (a b k : UInt8) : HR :=
  if badMark m then ⟨0, 0, 1, 1, []⟩
  else if fknownB k.toNat then
    if fitsF k.toNat (ofBe [a, b] : Nat) then ⟨k.toNat, (ofBe [a, b] : Nat), 0, 0, []⟩ else ⟨0, 0, 1, 2, [a, b]⟩
  else ⟨0, 0, 1, 3, [k]⟩
def headR (l : List UInt8) : HR := if l.length < 19 then ⟨0, 0, 0, 0, []⟩ else headOf (l.take 16) (l.getD 16 0) (l.getD 17 0) (l.getD 18 0)

/-- what a head's answer leaves -/
structure HeadPost (r : HR) (w : World) (v : Value) (w' : World) : Prop where
  own : w'.ownsRow w.heap.size 5 1 v r.d.length (r.d.map vb)
  bel : Below w.heap.size w w'
def HR.val (r : HR) (v : Value) : Value := .tuple #[.int .i64 r.k, .int .i64 r.n, .agg #[.int .i64 r.code, .int .i64 r.sub, v]]

theorem reads_of_blk {w : World} {g : Nat} {t : TypeId} {cs : Array Value} (h : Blk w g t cs) : Reads w (fun k => k = g) (some ⟨g, 0, none⟩) cs.toList :=
  .inr ⟨g, 0, rfl, rfl, h.lt, fun j u hj => by rw [h.cell]; simpa using hj⟩
theorem head_short (A : Option Addr) (c L : Nat) (w : World) (hL : L < 19) :
    Calls Tryd.prog 57 #[.slice A L c] w fun e w' => ∃ v, e = .returned (HR.val ⟨0, 0, 0, 0, []⟩ v) ∧ HeadPost ⟨0, 0, 0, 0, []⟩ w v w' := by
  have hB1 := Blk.new w 37 #[.int .i64 0, .int .i64 0, .slice none 0 0]
  have hb1 := (Below.refl w.heap.size w).alloc (Nat.le_refl _) (.cells #[.int .i64 0, .int .i64 0, .slice none 0 0] 37)
  have hM3 := hB1.setRow_ #[.int .i64 0, .int .i64 0, .slice none 0 0]
  have hb3 := below_setRow hb1 (g := w.heap.size) (Nat.le_refl _) #[.int .i64 0, .int .i64 0, .slice none 0 0]
  have k1 : (L : Int) < 19 := by omega
  have HP : HeadPost ⟨0, 0, 0, 0, []⟩ w (.slice none 0 0) _ := ⟨own_nil _ _ _ _, hb3⟩
  go_enter Tryd.func57, Tryd.ntmps57
  go_wp2_with (refine wpList_store_blk (by rfl) 37 (.tmp 4) (.tmp 11) rfl w.heap.size #[.int .i64 0, .int .i64 0, .slice none 0 0] (by rfl) (by rfl) 37 _ hB1 (by kernel_rfl) (by rfl) (note_one _ _ _ _ _) ?_)
  refine bodyPost_ret (results_tmp_tmp_cell rfl _ _ _ 37 #[.int .i64 0, .int .i64 0, .slice none 0 0] (0, 0) _ (by simp [Act.put]) hM3 Tryd.underlying37 rfl (by kernel_rfl)) rfl ?_
  exact ⟨.slice none 0 0, by simp [Act.put, HR.val], HP⟩

/-- a head's own note behind 'wrong' -/
theorem head_note {w w1 w2 : World} {B : Nat} {code sub : Int} {A1 : Option Addr} {c1 : Nat} {d : List UInt8} (hb1 : Below w.heap.size w w1) (hM2 : Blk w2 w.heap.size 37 #[.int .i64 0, .int .i64 0, .slice none 0 0]) (hB : w.heap.size < B)
    (hown : w2.ownsRow B 5 1 (.slice A1 d.length c1) d.length (d.map vb)) (hb : Below w1.heap.size w1 w2) :
    Blk (w2.setRow w.heap.size #[.int .i64 code, .int .i64 sub, .slice A1 d.length c1]) w.heap.size 37 #[.int .i64 code, .int .i64 sub, .slice A1 d.length c1] ∧ HeadPost ⟨0, 0, code, sub, d⟩ w (.slice A1 d.length c1) (w2.setRow w.heap.size #[.int .i64 code, .int .i64 sub, .slice A1 d.length c1]) :=
  ⟨hM2.setRow_ _, own_mono (own_only hown (only_setRow w2 w.heap.size _) (fun k hk e => by have := (hown.lt k hk).1; omega)) (by omega), below_setRow (hb1.trans (hb.mono hb1.size)) (g := w.heap.size) (Nat.le_refl _) _⟩

section
variable (b0 off c L : Nat) (m : List UInt8) (a b k : UInt8) (F : Nat → Prop) (w : World) (hm : m.length = 16) (hb0 : b0 < w.heap.size) (hrm : Reads w F (some ⟨b0, off, none⟩) (m.map vb)) (hrab : Reads w F (some ⟨b0, off + 16, none⟩) ([a, b].map vb))
  (h16 : w.cell? ⟨b0, off + 16, none⟩ = some (.int .u8 a.toNat)) (h17 : w.cell? ⟨b0, off + 17, none⟩ = some (.int .u8 b.toNat)) (h18 : w.cell? ⟨b0, off + 18, none⟩ = some (.int .u8 k.toNat)) (hL : 19 ≤ L) (hLc : L ≤ c) (hLm : L ≤ 9223372036854775807)

include hm hrm hL hLc hLm in
set_option maxHeartbeats 1000000 in
theorem head_mark (hk : badMark m = true) :
    Calls Tryd.prog 57 #[.slice (some ⟨b0, off, none⟩) L c] w fun e w' => ∃ v, e = .returned (HR.val ⟨0, 0, 1, 1, []⟩ v) ∧ HeadPost ⟨0, 0, 1, 1, []⟩ w v w' := by
  have hB1 := Blk.new w 37 #[.int .i64 0, .int .i64 0, .slice none 0 0]
  have hb1 := (Below.refl w.heap.size w).alloc (Nat.le_refl _) (.cells #[.int .i64 0, .int .i64 0, .slice none 0 0] 37)
  have hcm := contains_mark (some ⟨b0, off, none⟩) c m F _ (by omega) (hrm.alloc (.cells #[.int .i64 0, .int .i64 0, .slice none 0 0] 37))
  rw [hm, hk] at hcm
  have HC := Lib.hid hcm
  have k1 : ¬ (L : Int) < 19 := by omega
  have k2 : (16 : Int) ≤ (c : Int) := by omega
  have k3 : 16 ≤ c := by omega
  clear hcm hrm hk hm
  go_enter Tryd.func57, Tryd.ntmps57
  go_wp2_with fail
  refine HC.out.mono ?_
  rintro e w' ⟨rfl, rfl⟩
  go_wp2_with fail
  refine (wrong_any 1 none 0 [] (fun _ => True) _ (by simp) Reads.nil).mono ?_
  rintro e w2 ⟨v, rfl, hown, hb⟩
  obtain ⟨A1, c1, hv, -⟩ := own_reads hown
  subst hv
  have hM2 := hB1.below hb hB1.lt
  have hn := head_note (code := 1) (sub := 1) hb1 hM2 (by simp) hown hb
  obtain ⟨hM3, HP⟩ := hn
  have HPH := Lib.hid HP
  clear HP hown hb
  go_wp2_with (refine wpList_store_blk (by rfl) 37 (.tmp 4) (.tmp 18) rfl w.heap.size #[.int .i64 1, .int .i64 1, .slice A1 0 c1] (by rfl) (by rfl) 37 _ hM2 (by kernel_rfl) (by rfl) (note_one _ _ _ _ _) ?_)
  refine bodyPost_ret (results_tmp_tmp_cell rfl _ _ _ 37 #[.int .i64 1, .int .i64 1, .slice A1 0 c1] (0, 0) _ (by simp [Act.put]) hM3 Tryd.underlying37 rfl (by kernel_rfl)) rfl ?_
  exact ⟨_, by simp [Act.put, HR.val], HPH.out⟩

include hm hb0 hrm hrab h16 h17 h18 hL hLc hLm in
set_option maxHeartbeats 1000000 in
theorem head_kind (hk : badMark m = false) (hkn : fknownB k.toNat = false) :
    Calls Tryd.prog 57 #[.slice (some ⟨b0, off, none⟩) L c] w fun e w' => ∃ v, e = .returned (HR.val ⟨0, 0, 1, 3, [k]⟩ v) ∧ HeadPost ⟨0, 0, 1, 3, [k]⟩ w v w' := by
  have hB1 := Blk.new w 37 #[.int .i64 0, .int .i64 0, .slice none 0 0]
  have hb1 := (Below.refl w.heap.size w).alloc (Nat.le_refl _) (.cells #[.int .i64 0, .int .i64 0, .slice none 0 0] 37)
  have hcm := contains_mark (some ⟨b0, off, none⟩) c m F _ (by omega) (hrm.alloc (.cells #[.int .i64 0, .int .i64 0, .slice none 0 0] 37))
  rw [hm, hk] at hcm
  have HC := Lib.hid hcm
  have hgm := get_ok (some ⟨b0, off + 16, none⟩) (c - 16) [a, b] F _ (by simp) (by simp) (hrab.alloc (.cells #[.int .i64 0, .int .i64 0, .slice none 0 0] 37))
  have HG := Lib.hid hgm
  have hA16 := (World.cell?_of_block (w := w) (Below.heap_alloc w (.cells #[.int .i64 0, .int .i64 0, .slice none 0 0] 37) b0 hb0) (a := ⟨b0, off + 16, none⟩)).trans h16
  have hA17 := (World.cell?_of_block (w := w) (Below.heap_alloc w (.cells #[.int .i64 0, .int .i64 0, .slice none 0 0] 37) b0 hb0) (a := ⟨b0, off + 17, none⟩)).trans h17
  have hA18 := (World.cell?_of_block (w := w) (Below.heap_alloc w (.cells #[.int .i64 0, .int .i64 0, .slice none 0 0] 37) b0 hb0) (a := ⟨b0, off + 18, none⟩)).trans h18
  have k1 : ¬ (L : Int) < 19 := by omega
  have k2 : (16 : Int) ≤ (c : Int) := by omega
  have k3 : 16 ≤ c := by omega
  have k4 : (18 : Int) < (L : Int) := by omega
  have k5 : 18 < L := by omega
  have k6 : (18 : Int) ≤ (c : Int) := by omega
  have k7 : 18 ≤ c := by omega
  have k8 : ¬ c = 16 := by omega
  have k9 : (16 : Int) < (L : Int) := by omega
  have k10 : 16 < L := by omega
  have k11 : (17 : Int) < (L : Int) := by omega
  have k12 : 17 < L := by omega
  have hkx := k.toNat_lt
  have e1 : IntKind.i64.wrap (k.toNat : Int) = (k.toNat : Int) := IntWalk.i64_in _ (by omega)
  have HK := Lib.hid hkn
  have hD := Blk.new (w.alloc (.cells #[.int .i64 0, .int .i64 0, .slice none 0 0] 37)) 5 #[.int .u8 k.toNat]
  rw [World.size_alloc] at hD
  have hrD : Reads _ (fun _ => True) (some ⟨w.heap.size + 1, 0, none⟩) ([k].map vb) := (reads_of_blk hD).mono (fun _ _ _ => trivial)
  have hB2 := hB1.alloc (.cells #[.int .u8 k.toNat] 5)
  have hb2 := hb1.alloc hb1.size (.cells #[.int .u8 k.toNat] 5)
  have HW := Lib.hid (wrong_any 3 (some ⟨w.heap.size + 1, 0, none⟩) 1 [k] (fun _ => True) _ (by simp) hrD)
  clear hcm hrm hk hm hgm hrab hkn h16 h17 h18 hD hrD
  go_enter Tryd.func57, Tryd.ntmps57
  go_wp2_with fail
  refine HC.out.mono ?_
  rintro e w' ⟨rfl, rfl⟩
  go_wp2_with fail
  refine HG.out.mono ?_
  rintro e w' ⟨rfl, rfl⟩
  go_wp2_with fail
  refine (fknown_any _ _).mono ?_
  rintro e w' ⟨rfl, rfl⟩
  rw [HK.out]
  go_wp2_with fail
  refine HW.out.mono ?_
  rintro e w2 ⟨v, rfl, hown, hb⟩
  obtain ⟨A1, c1, hv, -⟩ := own_reads hown
  subst hv
  have hM2 := hB2.below hb hB2.lt
  have hn := head_note (code := 1) (sub := 3) hb2 hM2 (by simp; omega) hown hb
  obtain ⟨hM3, HP⟩ := hn
  have HPH := Lib.hid HP
  clear HP hown hb
  go_wp2_with (refine wpList_store_blk (by rfl) 37 (.tmp 4) (.tmp 40) rfl w.heap.size #[.int .i64 1, .int .i64 3, .slice A1 1 c1] (by rfl) (by rfl) 37 _ hM2 (by kernel_rfl) (by rfl) (note_one _ _ _ _ _) ?_)
  refine bodyPost_ret (results_tmp_tmp_cell rfl _ _ _ 37 #[.int .i64 1, .int .i64 3, .slice A1 1 c1] (0, 0) _ (by simp [Act.put]) hM3 Tryd.underlying37 rfl (by kernel_rfl)) rfl ?_
  exact ⟨_, by simp [Act.put, HR.val], HPH.out⟩

include hm hb0 hrm hrab h16 h17 h18 hL hLc hLm in
set_option maxHeartbeats 1000000 in
theorem head_good (hk : badMark m = false) (hkn : fknownB k.toNat = true) (hf : fitsF k.toNat (ofBe [a, b] : Nat) = true) (hT : LeastAt w) :
    Calls Tryd.prog 57 #[.slice (some ⟨b0, off, none⟩) L c] w fun e w' => ∃ v, e = .returned (HR.val ⟨k.toNat, (ofBe [a, b] : Nat), 0, 0, []⟩ v) ∧ HeadPost ⟨k.toNat, (ofBe [a, b] : Nat), 0, 0, []⟩ w v w' := by
  have hB1 := Blk.new w 37 #[.int .i64 0, .int .i64 0, .slice none 0 0]
  have hb1 := (Below.refl w.heap.size w).alloc (Nat.le_refl _) (.cells #[.int .i64 0, .int .i64 0, .slice none 0 0] 37)
  have hcm := contains_mark (some ⟨b0, off, none⟩) c m F _ (by omega) (hrm.alloc (.cells #[.int .i64 0, .int .i64 0, .slice none 0 0] 37))
  rw [hm, hk] at hcm
  have HC := Lib.hid hcm
  have hgm := get_ok (some ⟨b0, off + 16, none⟩) (c - 16) [a, b] F _ (by simp) (by simp) (hrab.alloc (.cells #[.int .i64 0, .int .i64 0, .slice none 0 0] 37))
  have HG := Lib.hid hgm
  have hA16 := (World.cell?_of_block (w := w) (Below.heap_alloc w (.cells #[.int .i64 0, .int .i64 0, .slice none 0 0] 37) b0 hb0) (a := ⟨b0, off + 16, none⟩)).trans h16
  have hA17 := (World.cell?_of_block (w := w) (Below.heap_alloc w (.cells #[.int .i64 0, .int .i64 0, .slice none 0 0] 37) b0 hb0) (a := ⟨b0, off + 17, none⟩)).trans h17
  have hA18 := (World.cell?_of_block (w := w) (Below.heap_alloc w (.cells #[.int .i64 0, .int .i64 0, .slice none 0 0] 37) b0 hb0) (a := ⟨b0, off + 18, none⟩)).trans h18
  have k1 : ¬ (L : Int) < 19 := by omega
  have k2 : (16 : Int) ≤ (c : Int) := by omega
  have k3 : 16 ≤ c := by omega
  have k4 : (18 : Int) < (L : Int) := by omega
  have k5 : 18 < L := by omega
  have k6 : (18 : Int) ≤ (c : Int) := by omega
  have k7 : 18 ≤ c := by omega
  have k8 : ¬ c = 16 := by omega
  have k9 : (16 : Int) < (L : Int) := by omega
  have k10 : 16 < L := by omega
  have k11 : (17 : Int) < (L : Int) := by omega
  have k12 : 17 < L := by omega
  have hkx := k.toNat_lt
  have e1 : IntKind.i64.wrap (k.toNat : Int) = (k.toNat : Int) := IntWalk.i64_in _ (by omega)
  have HK := Lib.hid hkn
  have h14 : (1 : Int) ≤ k.toNat ∧ (k.toNat : Int) ≤ 4 := by simpa [fknownB] using hkn
  have HF := Lib.hid (fits_any k.toNat (ofBe [a, b] : Nat) _ h14.1 h14.2 (hT.below hb1))
  rw [hf] at HF
  have hM3 := hB1.setRow_ #[.int .i64 0, .int .i64 0, .slice none 0 0]
  have HP : Hid (HeadPost ⟨k.toNat, (ofBe [a, b] : Nat), 0, 0, []⟩ w (.slice none 0 0) _) := Lib.hid ⟨own_nil _ _ _ _, below_setRow hb1 (g := w.heap.size) (Nat.le_refl _) #[.int .i64 0, .int .i64 0, .slice none 0 0]⟩
  clear hcm hrm hk hm hgm hrab hkn h16 h17 h18 hf h14
  generalize (ofBe [a, b]) = ab at *
  go_enter Tryd.func57, Tryd.ntmps57
  go_wp2_with fail
  refine HC.out.mono ?_
  rintro e w' ⟨rfl, rfl⟩
  go_wp2_with fail
  refine HG.out.mono ?_
  rintro e w' ⟨rfl, rfl⟩
  go_wp2_with fail
  refine (fknown_any _ _).mono ?_
  rintro e w' ⟨rfl, rfl⟩
  rw [HK.out]
  go_wp2_with fail
  refine HF.out.mono ?_
  rintro e w' ⟨rfl, rfl⟩
  go_wp2_with (refine wpList_store_blk (by rfl) 37 (.tmp 4) (.tmp 59) rfl w.heap.size #[.int .i64 0, .int .i64 0, .slice none 0 0] (by rfl) (by rfl) 37 _ hB1 (by kernel_rfl) (by rfl) (note_one _ _ _ _ _) ?_)
  refine bodyPost_ret (results_tmp_tmp_cell rfl _ _ _ 37 #[.int .i64 0, .int .i64 0, .slice none 0 0] (0, 0) _ (by simp [Act.put]) hM3 Tryd.underlying37 rfl (by kernel_rfl)) rfl ?_
  exact ⟨.slice none 0 0, by simp [Act.put, HR.val], HP.out⟩

include hm hb0 hrm hrab h16 h17 h18 hL hLc hLm in
set_option maxRecDepth 10000 in
set_option maxHeartbeats 4000000 in
theorem head_long (hk : badMark m = false) (hkn : fknownB k.toNat = true) (hf : fitsF k.toNat (ofBe [a, b] : Nat) = false) (hT : LeastAt w) :
    Calls Tryd.prog 57 #[.slice (some ⟨b0, off, none⟩) L c] w fun e w' => ∃ v, e = .returned (HR.val ⟨0, 0, 1, 2, [a, b]⟩ v) ∧ HeadPost ⟨0, 0, 1, 2, [a, b]⟩ w v w' := by
  have hB1 := Blk.new w 37 #[.int .i64 0, .int .i64 0, .slice none 0 0]
  have hb1 := (Below.refl w.heap.size w).alloc (Nat.le_refl _) (.cells #[.int .i64 0, .int .i64 0, .slice none 0 0] 37)
  have hcm := contains_mark (some ⟨b0, off, none⟩) c m F _ (by omega) (hrm.alloc (.cells #[.int .i64 0, .int .i64 0, .slice none 0 0] 37))
  rw [hm, hk] at hcm
  have HC := Lib.hid hcm
  have hgm := get_ok (some ⟨b0, off + 16, none⟩) (c - 16) [a, b] F _ (by simp) (by simp) (hrab.alloc (.cells #[.int .i64 0, .int .i64 0, .slice none 0 0] 37))
  have HG := Lib.hid hgm
  have hA16 := (World.cell?_of_block (w := w) (Below.heap_alloc w (.cells #[.int .i64 0, .int .i64 0, .slice none 0 0] 37) b0 hb0) (a := ⟨b0, off + 16, none⟩)).trans h16
  have hA17 := (World.cell?_of_block (w := w) (Below.heap_alloc w (.cells #[.int .i64 0, .int .i64 0, .slice none 0 0] 37) b0 hb0) (a := ⟨b0, off + 17, none⟩)).trans h17
  have hA18 := (World.cell?_of_block (w := w) (Below.heap_alloc w (.cells #[.int .i64 0, .int .i64 0, .slice none 0 0] 37) b0 hb0) (a := ⟨b0, off + 18, none⟩)).trans h18
  have k1 : ¬ (L : Int) < 19 := by omega
  have k2 : (16 : Int) ≤ (c : Int) := by omega
  have k3 : 16 ≤ c := by omega
  have k4 : (18 : Int) < (L : Int) := by omega
  have k5 : 18 < L := by omega
  have k6 : (18 : Int) ≤ (c : Int) := by omega
  have k7 : 18 ≤ c := by omega
  have k8 : ¬ c = 16 := by omega
  have k9 : (16 : Int) < (L : Int) := by omega
  have k10 : 16 < L := by omega
  have k11 : (17 : Int) < (L : Int) := by omega
  have k12 : 17 < L := by omega
  have hkx := k.toNat_lt
  have e1 : IntKind.i64.wrap (k.toNat : Int) = (k.toNat : Int) := IntWalk.i64_in _ (by omega)
  have HK := Lib.hid hkn
  have h14 : (1 : Int) ≤ k.toNat ∧ (k.toNat : Int) ≤ 4 := by simpa [fknownB] using hkn
  have HF := Lib.hid (fits_any k.toNat (ofBe [a, b] : Nat) _ h14.1 h14.2 (hT.below hb1))
  rw [hf] at HF
  have hD := Blk.new (w.alloc (.cells #[.int .i64 0, .int .i64 0, .slice none 0 0] 37)).drew 5 #[.int .u8 a.toNat, .int .u8 b.toNat]
  have hrD : Reads _ (fun _ => True) (some ⟨(w.alloc (.cells #[.int .i64 0, .int .i64 0, .slice none 0 0] 37)).drew.heap.size, 0, none⟩) ([a, b].map vb) := (reads_of_blk hD).mono (fun _ _ _ => trivial)
  have hB2 : Blk ((w.alloc (.cells #[.int .i64 0, .int .i64 0, .slice none 0 0] 37)).drew.alloc (.cells #[.int .u8 a.toNat, .int .u8 b.toNat] 5)) w.heap.size 37 #[.int .i64 0, .int .i64 0, .slice none 0 0] := hB1.drew.alloc (.cells #[.int .u8 a.toNat, .int .u8 b.toNat] 5)
  have hb2 : Below w.heap.size w ((w.alloc (.cells #[.int .i64 0, .int .i64 0, .slice none 0 0] 37)).drew.alloc (.cells #[.int .u8 a.toNat, .int .u8 b.toNat] 5)) := hb1.drew.alloc hb1.size (.cells #[.int .u8 a.toNat, .int .u8 b.toNat] 5)
  have hsz : (w.alloc (.cells #[.int .i64 0, .int .i64 0, .slice none 0 0] 37)).drew.heap.size = w.heap.size + 1 := by simp
  have HW := Lib.hid (wrong_any 2 (some ⟨w.heap.size + 1, 0, none⟩) 2 [a, b] (fun _ => True) ((w.alloc (.cells #[.int .i64 0, .int .i64 0, .slice none 0 0] 37)).drew.alloc (.cells #[.int .u8 a.toNat, .int .u8 b.toNat] 5)) (by simp) (by rw [← hsz]; exact hrD))
  have hne1 : ¬ b0 = w.heap.size := by omega
  have hne2 : ¬ w.heap.size = b0 := by omega
  have hz2 : b0 < ((w.alloc (.cells #[.int .i64 0, .int .i64 0, .slice none 0 0] 37)).drew.alloc (.cells #[.int .u8 a.toNat, .int .u8 b.toNat] 5)).heap.size := by simp; omega
  have hkk : ∀ w2 : World, Below ((w.alloc (.cells #[.int .i64 0, .int .i64 0, .slice none 0 0] 37)).drew.alloc (.cells #[.int .u8 a.toNat, .int .u8 b.toNat] 5)).heap.size ((w.alloc (.cells #[.int .i64 0, .int .i64 0, .slice none 0 0] 37)).drew.alloc (.cells #[.int .u8 a.toNat, .int .u8 b.toNat] 5)) w2 →
      w2.cell? ⟨b0, off + 16, none⟩ = some (.int .u8 a.toNat) ∧ w2.cell? ⟨b0, off + 17, none⟩ = some (.int .u8 b.toNat) := fun w2 hb =>
    ⟨(hb.cell (p := ⟨b0, off + 16, none⟩) hz2).trans (((hb2.cell (p := ⟨b0, off + 16, none⟩) hb0)).trans h16), (hb.cell (p := ⟨b0, off + 17, none⟩) hz2).trans (((hb2.cell (p := ⟨b0, off + 17, none⟩) hb0)).trans h17)⟩
  have HKK := Lib.hid hkk
  clear hcm hrm hk hm hgm hrab hkn h16 h17 h18 hD hrD hf h14 hkk hsz hz2
  generalize (ofBe [a, b]) = ab at *
  go_enter Tryd.func57, Tryd.ntmps57
  go_wp2_with fail
  refine HC.out.mono ?_
  rintro e w' ⟨rfl, rfl⟩
  go_wp2_with fail
  refine HG.out.mono ?_
  rintro e w' ⟨rfl, rfl⟩
  go_wp2_with fail
  refine (fknown_any _ _).mono ?_
  rintro e w' ⟨rfl, rfl⟩
  rw [HK.out]
  go_wp2_with fail
  refine HF.out.mono ?_
  rintro e w' ⟨rfl, rfl⟩
  go_wp2_with fail
  go_region_held3 (fun w' => w'.cell? ⟨b0, off + 16, none⟩ = some (.int .u8 a.toNat) ∧ w'.cell? ⟨b0, off + 17, none⟩ = some (.int .u8 b.toNat)) (first | go_keep | exact hk1)
    ((go_at_call 78; refine (HW.out).mono ?_; rintro e w2 ⟨v, rfl, hown, hb⟩; have hk1 := HKK.out _ hb; have hM1 := hB2.below hb hB2.lt; obtain ⟨m0, m1, m2, f0, f1, f2⟩ := blk3 hM1; obtain ⟨A1, c1, hv, -⟩ := own_reads hown; subst hv))
  obtain ⟨hM2, ho2⟩ := set3 hM1 (.int .i64 1) (.int .i64 2) (.slice A1 2 c1)
  have hown2 := own_mono (own_only hown ho2 (fun k hk e => by have := (hown.lt k hk).1; simp at this; omega)) (show w.heap.size ≤ _ by simp; omega)
  have hb3 : Below w.heap.size w _ := hb2.trans ((hb.mono hb2.size).trans (ho2.below (by have := hM1.lt; omega) (fun i hi => by omega)))
  have HO : Hid (HeadPost ⟨0, 0, 1, 2, [a, b]⟩ w _ _) := Lib.hid ⟨hown2, hb3⟩
  have HM := Lib.hid hM2
  clear hown hown2 hb2 hM2 hb ho2 hM1 hk1 m0 m1 m2 f0 f1 f2 hb3
  go_wp2_with fail
  refine bodyPost_ret (results_tmp_tmp_cell rfl _ _ _ 37 #[.int .i64 1, .int .i64 2, .slice A1 2 c1] (0, 0) _ (by simp) HM.out Tryd.underlying37 rfl (by kernel_rfl)) rfl ?_
  exact ⟨_, by simp [HR.val], HO.out⟩
end

theorem getD_of {l : List UInt8} {i : Nat} (h : i < l.length) : l.getD i 0 = l[i] := by simp [List.getD, h]
/-- WHAT ANY BYTES ARE AS A HEAD -/
theorem head_any (A : Option Addr) (c : Nat) (l : List UInt8) (F : Nat → Prop) (w : World) (hlc : l.length ≤ c) (hlm : l.length ≤ 9223372036854775807) (hr : Reads w F A (l.map vb)) (hT : LeastAt w) :
    Calls Tryd.prog 57 #[.slice A l.length c] w fun e w' => ∃ v, e = .returned ((headR l).val v) ∧ HeadPost (headR l) w v w' := by
  by_cases hs : l.length < 19
  · rw [show headR l = ⟨0, 0, 0, 0, []⟩ from if_pos hs]
    exact head_short A c l.length w hs
  · have hl : 19 ≤ l.length := by omega
    rw [show headR l = headOf (l.take 16) (l.getD 16 0) (l.getD 17 0) (l.getD 18 0) from if_neg hs, getD_of (show 16 < l.length by omega), getD_of (show 17 < l.length by omega), getD_of (show 18 < l.length by omega)]
    obtain ⟨b0, off, rfl, _, hb0, h16⟩ := hr.at_ (k := 16) (by simp; omega)
    obtain ⟨b1, off1, e1, _, _, h17⟩ := hr.at_ (k := 17) (by simp; omega)
    obtain ⟨b2, off2, e2, _, _, h18⟩ := hr.at_ (k := 18) (by simp; omega)
    injection e1 with e1
    injection e1 with e1 e1'
    injection e2 with e2
    injection e2 with e2 e2'
    subst e1 e1' e2 e2'
    simp only [List.getElem_map, vb] at h16 h17 h18
    have hm : (l.take 16).length = 16 := by simp; omega
    have hrm : Reads w F (some ⟨b0, off, none⟩) ((l.take 16).map vb) := by
      have := hr.take 16
      rwa [← List.map_take] at this
    have hrab : Reads w F (some ⟨b0, off + 16, none⟩) ([l[16], l[17]].map vb) := by
      have h1 := (hr.drop (k := 16) (A' := some ⟨b0, off + 16, none⟩) (fun _ b o e => by injection e with e; injection e with e e'; subst e e'; rfl)).take 2
      rw [← List.map_drop, ← List.map_take] at h1
      have h2 : (l.drop 16).take 2 = [l[16], l[17]] := by
        rw [List.drop_eq_getElem_cons (by omega : 16 < l.length), List.drop_eq_getElem_cons (by omega : 16 + 1 < l.length)]
        rfl
      rwa [h2] at h1
    unfold headOf
    cases hk : badMark (l.take 16)
    case true =>
      rw [if_pos rfl]
      exact head_mark b0 off c l.length (l.take 16) F w hm hrm hl hlc hlm hk
    rw [if_neg (by simp)]
    cases hkn : fknownB l[18].toNat
    case false =>
      rw [if_neg (by simp)]
      exact head_kind b0 off c l.length (l.take 16) l[16] l[17] l[18] F w hm hb0 hrm hrab h16 h17 h18 hl hlc hlm hk hkn
    rw [if_pos rfl]
    cases hf : fitsF l[18].toNat (ofBe [l[16], l[17]] : Nat)
    case false =>
      rw [if_neg (by simp)]
      exact head_long b0 off c l.length (l.take 16) l[16] l[17] l[18] F w hm hb0 hrm hrab h16 h17 h18 hl hlc hlm hk hkn hf hT
    rw [if_pos rfl]
    exact head_good b0 off c l.length (l.take 16) l[16] l[17] l[18] F w hm hb0 hrm hrab h16 h17 h18 hl hlc hlm hk hkn hf hT
end Go.Proofs.YtbmbpcibihddaaaDoor
