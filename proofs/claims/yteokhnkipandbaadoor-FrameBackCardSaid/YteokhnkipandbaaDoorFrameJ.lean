/-
  Streams: Next, where a message is whole. No condition but that the table of least lengths reads as it is laid.
-/
import Derived.Test.YteokhnkipandbaaDoorFrameI
namespace Go.Proofs.YteokhnkipandbaaDoor
open Go.ChangeShapes Go.WideShapes Go.ChangeAt Go.RowKit

/-- what Next leaves behind a message -/
structure NextMsg (B : Nat) (w : World) (g : Nat) (bs : List UInt8) (N : Nat) (sub : Int) (dv : Value) (w' : World) (v1 v2 : Value) : Prop where
  m : w'.ownsRow w.heap.size 5 1 v1 (N - 19) (((bs.take N).drop 19).map vb)
  s : Strm B w' g v2 (bs.drop N) 0 sub dv
  only : Only (fun k => k = g) w w'
  fresh : ∀ k, v2.ownBlock = some k → w.heap.size ≤ k

/-- the worlds behind the second clone: the stream's bytes are set, the answer's cells are set -/
structure NextFin (B : Nat) (w w7 : World) (g h8 : Nat) (bs : List UInt8) (N : Nat) (sub : Int) (dv : Value) (k : Int) (v1 v2 : Value) : Prop where
  c0 : ∃ x, w7.cell? ⟨g, 0, none⟩ = some x
  f0 : w7.frozen? ⟨g, 0, none⟩ = false
  t8 : Blk (w7.setCell ⟨g, 0, none⟩ v2) h8 61 #[.int .i64 k, v1]
  m8 : Blk (w7.setCell ⟨g, 0, none⟩ v2) w.heap.size 61 #[.int .i64 0, .slice none 0 0]
  n9 : Blk ((w7.setCell ⟨g, 0, none⟩ v2).setRow w.heap.size #[.int .i64 k, v1]) (w.heap.size + 1) 68 #[.int .i64 0, .int .i64 0, .slice none 0 0]
  hm : Blk (((w7.setCell ⟨g, 0, none⟩ v2).setRow w.heap.size #[.int .i64 k, v1]).setRow (w.heap.size + 1) #[.int .i64 0, .int .i64 0, .slice none 0 0]) w.heap.size 61 #[.int .i64 k, v1]
  hn : Blk (((w7.setCell ⟨g, 0, none⟩ v2).setRow w.heap.size #[.int .i64 k, v1]).setRow (w.heap.size + 1) #[.int .i64 0, .int .i64 0, .slice none 0 0]) (w.heap.size + 1) 68 #[.int .i64 0, .int .i64 0, .slice none 0 0]
  nx : NextMsg B w g bs N sub dv (((w7.setCell ⟨g, 0, none⟩ v2).setRow w.heap.size #[.int .i64 k, v1]).setRow (w.heap.size + 1) #[.int .i64 0, .int .i64 0, .slice none 0 0]) v1 v2

theorem next_fin {B : Nat} {w w4 w5 w7 : World} {g N : Nat} {v : Value} {bs : List UInt8} {sub : Int} {dv : Value} {k : Int} {v1 v2 : Value} (hgl : g < w.heap.size) (hbs : B ≤ g) (hb4 : Below w.heap.size w w4) (hsz : w.heap.size + 2 ≤ w4.heap.size)
    (hM4 : Blk w4 w.heap.size 61 #[.int .i64 0, .slice none 0 0]) (hN4 : Blk w4 (w.heap.size + 1) 68 #[.int .i64 0, .int .i64 0, .slice none 0 0]) (h4 : Strm B w4 g v bs 0 sub dv)
    (b5 : Below w4.heap.size w4 w5) (o5 : w5.ownsRow w4.heap.size 5 1 v1 (N - 19) (((bs.take N).drop 19).map vb)) (b7 : Below (w5.alloc (.cells #[.int .i64 k, v1] 61)).heap.size (w5.alloc (.cells #[.int .i64 k, v1] 61)) w7)
    (o7 : w7.ownsRow (w5.alloc (.cells #[.int .i64 k, v1] 61)).heap.size 5 1 v2 (bs.drop N).length ((bs.drop N).map vb)) : NextFin B w w7 g w5.heap.size bs N sub dv k v1 v2 := by
  have al := below_a1 w5 (.cells #[.int .i64 k, v1] 61)
  have hT6 := Blk.new w5 61 #[.int .i64 k, v1]
  have s5 := b5.size
  have s6 : w5.heap.size < (w5.alloc (.cells #[.int .i64 k, v1] 61)).heap.size := by simp
  have hB47 := (b5.trans (al.mono b5.size)).trans (b7.mono (b5.trans (al.mono b5.size)).size)
  have M7 := hM4.below hB47 hM4.lt
  have N7 := hN4.below hB47 hN4.lt
  have h7 := h4.below hB47
  have T7 := hT6.below b7 hT6.lt
  have o57 : w7.ownsRow w4.heap.size 5 1 v1 (N - 19) (((bs.take N).drop 19).map vb) := own_only (own_only o5 (S := fun _ => False) (Only.of_below al) (fun _ _ h => h)) (S := fun _ => False) (Only.of_below b7) (fun _ _ h => h)
  have hb7 := hb4.trans (hB47.mono hb4.size)
  have ho8 : Only (fun k => k = g) w7 (w7.setCell ⟨g, 0, none⟩ v2) := (Only.refl (fun k => k = g) w7).setCell (p := ⟨g, 0, none⟩) (fun _ => rfl) v2
  have M8 := M7.only ho8 (by omega)
  have N8 := N7.only ho8 (by omega)
  have T8 := T7.only ho8 (by omega)
  have S8 : Blk (w7.setCell ⟨g, 0, none⟩ v2) g 141 #[v2, .int .i64 0, .int .i64 sub, dv] := by
    have := h7.blk.set_ 0 v2
    simpa using this
  have o18 := own_only o57 ho8 (fun k hk e => by have := (o57.lt k hk).1; omega)
  have o28 := own_only o7 ho8 (fun k hk e => by have := (o7.lt k hk).1; omega)
  have o19 := own_only o18 (only_setRow _ w.heap.size #[.int .i64 k, v1]) (fun k hk e => by have := (o18.lt k hk).1; omega)
  have o29 := own_only o28 (only_setRow _ w.heap.size #[.int .i64 k, v1]) (fun k hk e => by have := (o28.lt k hk).1; omega)
  have o110 := own_only o19 (only_setRow _ (w.heap.size + 1) #[.int .i64 0, .int .i64 0, .slice none 0 0]) (fun k hk e => by have := (o19.lt k hk).1; omega)
  have o210 := own_only o29 (only_setRow _ (w.heap.size + 1) #[.int .i64 0, .int .i64 0, .slice none 0 0]) (fun k hk e => by have := (o29.lt k hk).1; omega)
  have S10 := (S8.farRow (k := w.heap.size) (by omega) #[.int .i64 k, v1]).farRow (k := w.heap.size + 1) (by omega) #[.int .i64 0, .int .i64 0, .slice none 0 0]
  have N9 := N8.farRow (k := w.heap.size) (by omega) #[.int .i64 k, v1]
  have hO : Only (fun k => k = g) w (((w7.setCell ⟨g, 0, none⟩ v2).setRow w.heap.size #[.int .i64 k, v1]).setRow (w.heap.size + 1) #[.int .i64 0, .int .i64 0, .slice none 0 0]) :=
    (((Only.of_below (S := fun k => k = g) hb7).trans ho8 (fun _ _ h => h)).trans (only_setRow _ w.heap.size _) (fun i hi h => by omega)).trans (only_setRow _ (w.heap.size + 1) _) (fun i hi h => by omega)
  obtain ⟨q0, _, _, _, f0, _⟩ := blk4 h7.blk
  exact ⟨⟨_, q0⟩, f0, T8, M8, N9, (M8.setRow_ _).farRow (by omega) _, N9.setRow_ _, ⟨own_mono o110 (by omega), ⟨S10, own_mono o210 (by omega), hbs⟩, hO, fun k hk => by have := (o210.lt k hk).1; omega⟩⟩

section
variable {B : Nat} {w : World} {g : Nat} {v : Value} {bs : List UInt8} {sub : Int} {dv : Value}

set_option maxRecDepth 10000 in
set_option maxHeartbeats 8000000 in
theorem next_msg (N : Nat) (h : Strm B w g v bs 0 sub dv) (hL : LeastAt w) (hm : bs.length ≤ 65536) (hc : (headR bs).code = 0) (hk : (headR bs).k ≠ 0) (hn : (headR bs).n = N) (h19 : 19 ≤ N) (hN : N ≤ bs.length) :
    Calls Tryd.prog 41 #[.pointer (some ⟨g, 0, none⟩)] w fun e w' => ∃ v1 v2, e = .returned (.tuple #[.agg #[.int .i64 (headR bs).k, v1], .bool true, .agg noteNone]) ∧ NextMsg B w g bs N sub dv w' v1 v2 := by
  have hgl := h.blk.lt
  have hbs := h.base
  have hb2 := below_a2 w (.cells msgNone 61) (.cells noteNone 68)
  have hM2 := (Blk.new w 61 msgNone).alloc (.cells noteNone 68)
  have hN2 := Blk.new1 w (.cells msgNone 61) 68 noteNone
  have h2 := h.below hb2
  obtain ⟨A1, c1, hv, hc1, _, _, hr2⟩ := own_reads h2.own
  subst hv
  obtain ⟨d0, d1, _⟩ := blk4 h2.blk
  have HH := Lib.hid (head_any A1 c1 bs _ _ hc1 (by omega) hr2 (hL.below hb2))
  have hrX : Reads ((w.alloc (.cells msgNone 61)).alloc (.cells noteNone 68)) (fun k => k < ((w.alloc (.cells msgNone 61)).alloc (.cells noteNone 68)).heap.size) (cutA A1 c1 19) (((bs.take N).drop 19).map vb) := by
    have h1 := (hr2.take N).cut (c := c1) (by simp; omega) 19
    rw [← List.map_take, ← List.map_drop] at h1
    exact h1.mono (fun _ hk _ => hk)
  have hrY : Reads ((w.alloc (.cells msgNone 61)).alloc (.cells noteNone 68)) (fun k => k < ((w.alloc (.cells msgNone 61)).alloc (.cells noteNone 68)).heap.size) (cutA A1 c1 N) ((bs.drop N).map vb) := by
    have h1 := hr2.cut (c := c1) (by simp; omega) N
    rw [← List.map_drop] at h1
    exact h1.mono (fun _ hk _ => hk)
  have hlX : ((bs.take N).drop 19).length = N - 19 := by simp; omega
  have hlY : (bs.drop N).length = bs.length - N := by simp
  have HCX := Lib.hid fun (X : Option Addr) (Z : Nat) (W : World) (hr : Reads W (fun _ => True) X (((bs.take N).drop 19).map vb)) => (show Calls Tryd.prog 98 #[.slice X (N - 19) Z] W fun e w' => ∃ v, e = .returned v ∧ w'.ownsRow W.heap.size 5 1 v (N - 19) (((bs.take N).drop 19).map vb) ∧ Below W.heap.size W w' from by
    have := clone_u8 X Z ((bs.take N).drop 19) _ W (by omega) hr
    rw [hlX] at this
    exact this)
  have HCY := Lib.hid fun (Y : Option Addr) (Z : Nat) (W : World) (hr : Reads W (fun _ => True) Y ((bs.drop N).map vb)) => (show Calls Tryd.prog 98 #[.slice Y (bs.length - N) Z] W fun e w' => ∃ v, e = .returned v ∧ w'.ownsRow W.heap.size 5 1 v (bs.drop N).length ((bs.drop N).map vb) ∧ Below W.heap.size W w' from by
    have := clone_u8 Y Z (bs.drop N) _ W (by omega) hr
    rw [hlY] at this ⊢
    exact this)
  have k1 : (19 : Int) ≤ (N : Int) := by omega
  have k2 : (N : Int) ≤ (c1 : Int) := by omega
  have k3 : N ≤ c1 := by omega
  have k4 : (N : Int) ≤ (bs.length : Int) := by omega
  have k5 : ¬ (bs.length : Int) < (N : Int) := by omega
  have k6 : (0 : Int) ≤ (N : Int) := by omega
  clear hr2 hL h hlX hlY
  generalize headR bs = r at *
  obtain ⟨k, n, code, sub1, d⟩ := r
  simp only at hc hk hn ⊢
  subst hc hn
  simp only [HR.val] at HH
  have hk0 : ¬ k = 0 := hk
  have hkb : (k == 0) = false := by simp [hk0]
  clear hk
  unfold msgNone noteNone at *
  go_enter Tryd.func41, Tryd.ntmps41
  go_wp2_with fail
  refine HH.out.mono ?_
  rintro e w3 ⟨v1, rfl, hp⟩
  obtain ⟨A2, c2, hv2, -⟩ := own_reads hp.own
  subst hv2
  have al := below_a1 w3 (.cells #[.int .i64 0, .int .i64 sub1, .slice A2 d.length c2] 68)
  have hB24 := hp.bel.trans (al.mono hp.bel.size)
  have hb4 := hb2.trans (hB24.mono hb2.size)
  have hb3s := hp.bel.size
  simp only [World.size_alloc] at hb3s
  have hM4 := hM2.below hB24 hM2.lt
  have hN4 := hN2.below hB24 hN2.lt
  have h4 := h2.below hB24
  obtain ⟨x0, x1, _⟩ := blk4 h4.blk
  have hX := (hrX.below hB24 (fun _ _ h => h)).mono (G := fun _ => True) (fun _ _ _ => trivial)
  have hY := (hrY.below hB24 (fun _ _ h => h)).mono (G := (· < (w3.alloc (.cells #[.int .i64 0, .int .i64 sub1, .slice A2 d.length c2] 68)).heap.size)) (fun _ hk _ => hk)
  clear hM2 hN2 h2 hp al hB24 d0 d1 hb2 hrX hrY
  go_wp2_with (refine wpList_cut_mid (by rfl) 59 5 (.tmp 61) (.const (.int .i64 19)) (.tmp 62) (by rfl) Tryd.underlying59 (by kernel_rfl) A1 bs.length c1 19 N 19 N (by rfl) (by rfl) (by rfl) rfl rfl h19 k3 ?_)
  refine (HCX.out _ _ _ hX).mono ?_
  rintro e w5 ⟨v1, rfl, o5, b5⟩
  obtain ⟨A5, c5, hv5, -⟩ := own_reads o5
  subst hv5
  have al2 := below_a1 w5 (.cells #[.int .i64 k, .slice A5 (N - 19) c5] 61)
  have hB5 := b5.trans (al2.mono b5.size)
  have h6 := h4.below hB5
  obtain ⟨y0, y1, _⟩ := blk4 h6.blk
  have hY6 := (hY.below hB5 (fun _ _ h => h)).mono (G := fun _ => True) (fun _ _ _ => trivial)
  clear x0 x1 hX hY
  go_wp2_with (refine wpList_cut_from (by rfl) 59 5 (.tmp 70) (.tmp 71) (by rfl) Tryd.underlying59 (by kernel_rfl) A1 bs.length c1 N N (by rfl) (by rfl) rfl hN ?_)
  refine (HCY.out _ _ _ hY6).mono ?_
  rintro e w7 ⟨v2, rfl, o7, b7⟩
  obtain ⟨A7, c7, hv7, -⟩ := own_reads o7
  subst hv7
  have FIN := next_fin hgl hbs hb4 (by simp; have := hb3s; omega) hM4 hN4 h4 b5 o5 b7 o7
  simp only [List.length_drop] at FIN
  obtain ⟨⟨qx, hq0⟩, hf0, ht8, hm8, hn9, hm10, hn10, hnx⟩ := FIN
  have HM := Lib.hid fun (_ : Unit) => hm10
  have HN := Lib.hid fun (_ : Unit) => hn10
  have HNX := Lib.hid fun (_ : Unit) => hnx
  clear hm10 hn10 hnx o5 o7 b5 b7 al2 hB5 h6 y0 y1 hY6
  go_wp2_with (first | (refine wpList_load_blk (by rfl) 61 (.tmp 8) rfl w5.heap.size (by rfl) 61 _ _ ht8 Tryd.underlying61 rfl (by kernel_rfl) ?_) | (refine wpList_store_blk (by rfl) 61 (.tmp 2) (.tmp 76) rfl w.heap.size #[.int .i64 k, .slice A5 (N - 19) c5] (by rfl) (by rfl) 61 _ hm8 (by kernel_rfl) (by rfl) (msg_one _ _ _ _) ?_) |
    (refine wpList_store_blk (by rfl) 68 (.tmp 4) (.tmp 77) rfl (w.heap.size + 1) #[.int .i64 0, .int .i64 0, .slice none 0 0] (by rfl) (by rfl) 68 _ hn9 (by kernel_rfl) (by rfl) (note_one _ _ _ _ _) ?_))
  refine bodyPost_ret (results_cell_tmp_cell rfl _ _ _ _ 61 68 #[.int .i64 k, .slice A5 (N - 19) c5] #[.int .i64 0, .int .i64 0, .slice none 0 0] (0, 0) (0, 0) _ _ (by simp [Act.put]) (by simp [Act.put]) (HM.out ()) (HN.out ()) Tryd.underlying61 rfl (by kernel_rfl) Tryd.underlying68 rfl (by kernel_rfl)) rfl ?_
  exact ⟨.slice A5 (N - 19) c5, _, by simp [Act.put], HNX.out ()⟩
end
end Go.Proofs.YteokhnkipandbaaDoor
