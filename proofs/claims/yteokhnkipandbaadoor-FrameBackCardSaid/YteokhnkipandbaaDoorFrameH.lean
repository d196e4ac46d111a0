/-
  Streams: New, Feed, Len. No condition but that bytes read as data.
-/
import Derived.Test.YteokhnkipandbaaDoorFrameD
namespace Go.Proofs.YteokhnkipandbaaDoor
open Go.ChangeShapes Go.WideShapes Go.ChangeAt Go.RowKit

theorem blk4 {w : World} {g : Nat} {t : TypeId} {a b c d : Value} (h : Blk w g t #[a, b, c, d]) : w.cell? ⟨g, 0, none⟩ = some a ∧ w.cell? ⟨g, 1, none⟩ = some b ∧ w.cell? ⟨g, 2, none⟩ = some c ∧ w.cell? ⟨g, 3, none⟩ = some d ∧ w.frozen? ⟨g, 0, none⟩ = false ∧ w.frozen? ⟨g, 1, none⟩ = false ∧ w.frozen? ⟨g, 2, none⟩ = false ∧ w.frozen? ⟨g, 3, none⟩ = false :=
  ⟨by rw [h.cell 0]; rfl, by rw [h.cell 1]; rfl, by rw [h.cell 2]; rfl, by rw [h.cell 3]; rfl, h.frozen 0, h.frozen 1, h.frozen 2, h.frozen 3⟩

/-- a stream: its block, its bytes, the code of its note -/
structure Strm (B : Nat) (W : World) (g : Nat) (v : Value) (bs : List UInt8) (code sub : Int) (dv : Value) : Prop where
  blk : Blk W g 141 #[v, .int .i64 code, .int .i64 sub, dv]
  own : W.ownsRow B 5 1 v bs.length (bs.map vb)
  base : B ≤ g
/-- which blocks a call on the stream may turn -/
def Turns (g : Nat) (v : Value) : Nat → Prop := fun k => k = g ∨ v.ownBlock = some k
theorem Strm.ne {B : Nat} {W : World} {g : Nat} {v : Value} {bs : List UInt8} {code sub : Int} {dv : Value} (h : Strm B W g v bs code sub dv) : v.ownBlock ≠ some g := by
  intro e
  rcases h.own.2 with ⟨hv, _⟩ | ⟨k, cap, cur, hv, _, hk, _⟩
  · rw [hv] at e; cases e
  · rw [hv] at e
    injection e with e
    have e : k = g := e
    subst e
    have := h.blk
    unfold Blk at this
    rw [this] at hk
    injection hk with hk
    injection hk with _ hk
    exact absurd hk (by decide)
theorem Strm.only {B : Nat} {W W' : World} {g : Nat} {v : Value} {bs : List UInt8} {code sub : Int} {dv : Value} {S : Nat → Prop} (h : Strm B W g v bs code sub dv) (ho : Only S W W') (hS : ∀ k, Turns g v k → ¬ S k) : Strm B W' g v bs code sub dv :=
  ⟨h.blk.only ho (hS g (.inl rfl)), own_only h.own ho (fun k hk => hS k (.inr hk)), h.base⟩
theorem Strm.below {B : Nat} {W W' : World} {g : Nat} {v : Value} {bs : List UInt8} {code sub : Int} {dv : Value} (h : Strm B W g v bs code sub dv) (hb : Below W.heap.size W W') : Strm B W' g v bs code sub dv :=
  h.only (S := fun _ => False) (Only.of_below hb) (fun _ _ h => h)

theorem new_strm (w : World) : Calls Tryd.prog 39 #[] w fun e w' => e = .returned (.pointer (some ⟨w.heap.size, 0, none⟩)) ∧ Strm w.heap.size w' w.heap.size (.slice none 0 0) [] 0 0 (.slice none 0 0) ∧ Below w.heap.size w w' := by
  have hB := Blk.new w 141 #[.slice none 0 0, .int .i64 0, .int .i64 0, .slice none 0 0]
  have hb := below_a1 w (.cells #[.slice none 0 0, .int .i64 0, .int .i64 0, .slice none 0 0] 141)
  have HS : Strm w.heap.size (w.alloc (.cells #[.slice none 0 0, .int .i64 0, .int .i64 0, .slice none 0 0] 141)) w.heap.size (.slice none 0 0) [] 0 0 (.slice none 0 0) := ⟨hB, own_nil _ _ _ _, Nat.le_refl _⟩
  have H := Lib.hid HS
  clear HS hB
  go_enter Tryd.func39, Tryd.ntmps39
  go_wp2_with fail
  go_ret
  exact ⟨rfl, H.out, hb⟩

theorem len_strm {B : Nat} {w : World} {g : Nat} {v : Value} {bs : List UInt8} {code sub : Int} {dv : Value} (h : Strm B w g v bs code sub dv) :
    Calls Tryd.prog 43 #[.pointer (some ⟨g, 0, none⟩)] w fun e w' => e = .returned (.int .i64 bs.length) ∧ w = w' := by
  obtain ⟨A, c, hv, _⟩ := own_reads h.own
  subst hv
  obtain ⟨c0, _⟩ := blk4 h.blk
  clear h
  go_enter Tryd.func43, Tryd.ntmps43
  go_wp2_with fail
  go_ret
  exact ⟨rfl, rfl⟩
theorem len_nobody (w : World) : Calls Tryd.prog 43 #[.pointer none] w fun e w' => e = .returned (.int .i64 0) ∧ w = w' := by
  go_enter Tryd.func43, Tryd.ntmps43
  go_wp2_with fail
  go_ret
  exact ⟨rfl, rfl⟩
theorem feed_nobody (x : Value) (w : World) : Calls Tryd.prog 40 #[.pointer none, x] w fun e w' => e = .returned (.int .i64 6) ∧ w = w' := by
  go_enter Tryd.func40, Tryd.ntmps40
  go_wp2_with fail
  go_ret
  exact ⟨rfl, rfl⟩
theorem feed_closed {B : Nat} {w : World} {g : Nat} {v : Value} {bs : List UInt8} {code sub : Int} {dv : Value} (x : Value) (h : Strm B w g v bs code sub dv) (hc : code ≠ 0) :
    Calls Tryd.prog 40 #[.pointer (some ⟨g, 0, none⟩), x] w fun e w' => e = .returned (.int .i64 6) ∧ w = w' := by
  obtain ⟨c0, c1, _⟩ := blk4 h.blk
  have hc1 : ¬ code = 0 := hc
  clear h hc
  go_enter Tryd.func40, Tryd.ntmps40
  go_wp2_with fail
  go_ret
  exact ⟨rfl, rfl⟩
theorem feed_full {B : Nat} {w : World} {g : Nat} {v : Value} {bs : List UInt8} {sub : Int} {dv : Value} (A : Option Addr) (L c : Nat) (h : Strm B w g v bs 0 sub dv) (hb : bs.length ≤ 65536) (hL : 65536 < bs.length + L) :
    Calls Tryd.prog 40 #[.pointer (some ⟨g, 0, none⟩), .slice A L c] w fun e w' => e = .returned (.int .i64 2) ∧ w = w' := by
  obtain ⟨A1, c1', hv, _⟩ := own_reads h.own
  subst hv
  obtain ⟨c0, c1, _⟩ := blk4 h.blk
  have e1 : IntKind.i64.wrap ((65536 : Int) - bs.length) = (65536 : Int) - bs.length := IntWalk.i64_in _ (by omega)
  have k1 : (65536 : Int) - bs.length < L := by omega
  clear h
  go_enter Tryd.func40, Tryd.ntmps40
  go_wp2_with fail
  go_ret
  exact ⟨rfl, rfl⟩

/-- what Feed leaves -/
structure Fed (B : Nat) (w : World) (g : Nat) (v : Value) (bs : List UInt8) (sub : Int) (dv : Value) (w' : World) (v' : Value) : Prop where
  s : Strm B w' g v' bs 0 sub dv
  only : Only (Turns g v) w w'
  at_ : v'.ownBlock = v.ownBlock ∨ v'.ownBlock = some w.heap.size

set_option maxRecDepth 10000 in
set_option maxHeartbeats 1000000 in
theorem feed_ok {B : Nat} {w : World} {g : Nat} {v : Value} {bs : List UInt8} {sub : Int} {dv : Value} (A : Option Addr) (c : Nat) (l : List UInt8) (F : Nat → Prop) (h : Strm B w g v bs 0 sub dv) (hL : bs.length + l.length ≤ 65536) (hr : Reads w F A (l.map vb)) :
    Calls Tryd.prog 40 #[.pointer (some ⟨g, 0, none⟩), .slice A l.length c] w fun e w' => ∃ v', e = .returned (.int .i64 0) ∧ Fed B w g v (bs ++ l) sub dv w' v' := by
  obtain ⟨i0, hi, hz0, hz1, hz2⟩ := info_parts infoU8
  have HS := Lib.hid h
  have hne := h.ne
  have hgl := h.blk.lt
  have hBs : B ≤ w.heap.size := Nat.le_trans h.base (Nat.le_of_lt hgl)
  have hown := h.own
  obtain ⟨A1, c1', hv, hc1, _, _, _⟩ := own_reads hown
  subst hv
  obtain ⟨c0, c1, c2, c3, f0, _⟩ := blk4 h.blk
  have e1 : IntKind.i64.wrap ((65536 : Int) - bs.length) = (65536 : Int) - bs.length := IntWalk.i64_in _ (by omega)
  have k1 : ¬ (65536 : Int) - bs.length < (l.length : Int) := by omega
  have hbl : bs.length + l.length ≤ 65536 := hL
  clear h
  go_enter Tryd.func40, Tryd.ntmps40
  go_wp2_with (refine wpList_append_rd _ (by rfl) (.tmp 30) (.tmp 31) 59 rfl B 5 i0 (.int .u8 0) 1 1 Tryd.underlying59 hi hz0 hz1 hz2 rfl (by omega) _ bs.length (bs.map vb) (by rfl) hown F A l.length c (l.map vb) (by rfl) (by simp) hr (vb_one l) (by unfold maxLen; omega) (by omega) hBs ?_)
  intro v' w1 hown1 hg hat
  obtain ⟨A2, c2', hv2, _⟩ := own_reads hown1
  obtain ⟨v2, hv3⟩ : ∃ v2, v2 = v' := ⟨_, rfl⟩
  rw [← hv3] at hown1 hat
  have ho1 : Only (Turns g (.slice A1 bs.length c1')) w w1 := (Only.refl _ w).grown hg (fun k hk _ => .inr hk)
  have hM1 : Blk w1 g 141 _ := HS.out.blk.grown hg (fun e => hne e.symm)
  have hne1 : v2.ownBlock ≠ some g := by
    rcases hat with e | e
    · rw [e]; exact hne
    · rw [e]; intro e'; injection e' with e'; omega
  have hM2 := hM1.set_ 0 v2
  have ho2 : Only (Turns g (.slice A1 bs.length c1')) w (w1.setCell ⟨g, 0, none⟩ v2) := ho1.setCell (fun _ => .inl rfl) v2
  have hown2 : (w1.setCell ⟨g, 0, none⟩ v2).ownsRow B 5 1 v2 (bs ++ l).length ((bs ++ l).map vb) := by
    have := own_only hown1 (S := fun k => k = g) ((Only.refl (fun k => k = g) w1).setCell (p := ⟨g, 0, none⟩) (fun _ => rfl) v2) (fun k hk e => hne1 (by rw [hk, e]))
    rw [List.map_append, List.length_append]
    exact this
  have HF : Hid (Fed B w g (.slice A1 bs.length c1') (bs ++ l) sub dv (w1.setCell ⟨g, 0, none⟩ v2) v2) := Lib.hid ⟨⟨hM2, hown2, HS.out.base⟩, ho2, hat⟩
  obtain ⟨d0, d1, d2, d3, g0, _⟩ := blk4 hM1
  clear hM1 hM2 ho1 ho2 hown1 hown2 c0 c1 c2 c3 f0 hr hown hg e1 k1 hbl hL hat hgl hBs hne hne1 hc1 hz0 hz1 hz2 hi
  rw [hv3, hv2] at HF
  rw [hv2]
  go_wp2_with fail
  go_ret
  exact ⟨_, rfl, HF.out⟩
end Go.Proofs.YteokhnkipandbaaDoor
