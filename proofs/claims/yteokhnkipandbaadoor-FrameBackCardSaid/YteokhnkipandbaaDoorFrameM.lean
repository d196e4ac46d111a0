/-
  Messages: what must come of every program ('lives'). No condition but that the table of least lengths reads as it is laid.
-/
import Derived.Test.YteokhnkipandbaaDoorFrameF
import Derived.Test.YteokhnkipandbaaDoorFrameJ
import Derived.Test.YteokhnkipandbaaDoorFrameK
namespace Go.Proofs.YteokhnkipandbaaDoor
open Go.ChangeShapes Go.WideShapes Go.ChangeAt Go.RowKit

/-- a Keep's bytes -/
def kB : List UInt8 := List.replicate 16 255 ++ [0, 19, 4]
def kM : MV := ⟨4, none, 0, []⟩
def xM : MV := ⟨5, none, 0, []⟩
theorem kM_put : kM.put = kB := by simp [MV.put, kM, kB, be]
theorem kB_head : headR kB = ⟨4, 19, 0, 0, []⟩ := rfl

/-- what stays as it is while a stream is at work: the Keep, its bytes, the table -/
structure LF (w W : World) (gs : Nat) (A1 : Option Addr) : Prop where
  bel : Below w.heap.size w W
  lt : w.heap.size < gs
  k : Blk W w.heap.size 61 #[.int .i64 4, .slice none 0 0]
  b : Reads W (· < gs) A1 (kB.map vb)
theorem LF.step {w W W' : World} {gs : Nat} {A1 : Option Addr} {S : Nat → Prop} (h : LF w W gs A1) (ho : Only S W W') (hS : ∀ k, S k → gs ≤ k) : LF w W' gs A1 :=
  have hl := h.lt
  ⟨h.bel.trans (ho.below h.bel.size (fun i hi => by have := hS i hi; omega)), h.lt, h.k.only ho (fun hi => by have := hS _ hi; omega), h.b.only ho (fun b _ hb hs => by have := hS b hs; omega)⟩
theorem LF.below {w W W' : World} {gs : Nat} {A1 : Option Addr} (h : LF w W gs A1) (hb : Below W.heap.size W W') : LF w W' gs A1 :=
  h.step (S := fun _ => False) (Only.of_below hb) (fun _ h => h.elim)
theorem LF.least {w W : World} {gs : Nat} {A1 : Option Addr} (h : LF w W gs A1) (hL : LeastAt w) : LeastAt W := hL.below h.bel
theorem turns_ge {W : World} {g : Nat} {v : Value} {bs : List UInt8} {code sub : Int} {dv : Value} (h : Strm g W g v bs code sub dv) : ∀ k, Turns g v k → g ≤ k := fun k hk => by
  rcases hk with rfl | hk
  · exact Nat.le_refl _
  · exact (h.own.lt k hk).1
theorem not_turns {W : World} {B g k : Nat} {v : Value} {bs : List UInt8} {code sub : Int} {dv : Value} {t : TypeId} {cs : Array Value} (h : Strm B W g v bs code sub dv) (hb : Blk W k t cs) (h1 : t ≠ 141) (h2 : t ≠ 5) : ¬ Turns g v k := by
  rintro (rfl | hk)
  · exact (hb.ne_ h.blk h1) rfl
  · rcases h.own.2 with ⟨hv, _⟩ | ⟨k', cap, cur, hv, _, hk', _⟩
    · rw [hv] at hk; cases hk
    · rw [hv] at hk
      injection hk with hk
      have hk : k' = k := hk
      subst hk
      unfold Blk at hb
      rw [hb] at hk'
      injection hk' with hk'
      injection hk' with _ hk'
      exact h2 hk'

theorem reads_some {w : World} {F : Nat → Prop} {b off : Nat} {xs : List Value} (h : Reads w F (some ⟨b, off, none⟩) xs) (k : Nat) (u : Value) (hk : xs[k]? = some u) : w.cell? ⟨b, off + k, none⟩ = some u := by
  rcases h with rfl | ⟨b', off', e, _, _, hc⟩
  · cases hk
  · injection e with e
    injection e with e1 e2
    subst e1 e2
    exact hc k u hk
theorem blk2c {w : World} {g : Nat} {t : TypeId} {a b : Value} (h : Blk w g t #[a, b]) : w.cell? ⟨g, 0, none⟩ = some a ∧ w.cell? ⟨g, 1, none⟩ = some b := ⟨by rw [h.cell 0]; rfl, by rw [h.cell 1]; rfl⟩
theorem own_reads1 {w : World} {B : Nat} {e : TypeId} {A : Option Addr} {n c : Nat} {xs : List Value} (h : w.ownsRow B e 1 (.slice A n c) n xs) : Reads w (fun _ => True) A xs := by
  obtain ⟨A', c', hv, _, _, _, hr⟩ := own_reads h
  injection hv with e1 e2 e3
  subst e1
  exact hr.mono (fun _ _ _ => trivial)

set_option maxRecDepth 100000 in
set_option maxHeartbeats 8000000 in
theorem frame_lives (w : World) (hL : LeastAt w) : Calls Tryd.prog 31 #[] w fun e w' => e = .returned (.bool true) ∧ Below w.heap.size w w' := by
  have hk0 := Blk.new w 61 #[.int .i64 4, .slice none 0 0]
  have hb0 := below_a1 w (.cells #[.int .i64 4, .slice none 0 0] 61)
  have HP := Lib.hid fun (_ : Unit) => fput_ok kM _ (fun _ => True) (hL.below hb0) (by rfl) Reads.nil
  rw [kM_put] at HP
  go_enter Tryd.func31, Tryd.ntmps31
  go_wp2_with fail
  refine (HP.out ()).mono ?_
  rintro e W1 ⟨v1, rfl, o1, b1⟩
  obtain ⟨A1, c1, hv, hc1, _, _, rd⟩ := own_reads o1
  have hv : v1 = .slice A1 19 c1 := hv
  have hc1 : 19 ≤ c1 := hc1
  subst hv
  obtain ⟨bb, off, hA, _, _, _⟩ := rd.at_ (k := 0) (by simp [kB])
  subst hA
  have bel1 := hb0.trans (b1.mono hb0.size)
  have k1 := hk0.below b1 hk0.lt
  have r1 : Reads W1 (· < W1.heap.size) (some ⟨bb, off, none⟩) (kB.map vb) := rd.mono (fun _ hk _ => hk)
  clear rd o1 b1 hk0 hb0 HP
  go_wp2_with fail
  refine (fput_no xM _ (by simp [xM]) (hL.below bel1) (by rfl)).mono ?_
  rintro e W2 ⟨rfl, b2⟩
  have bel2 := bel1.trans (b2.mono bel1.size)
  have k2 := k1.below b2 k1.lt
  have r2 : Reads W2 (· < W2.heap.size) (some ⟨bb, off, none⟩) (kB.map vb) := (r1.below b2 (fun _ _ h => h)).mono (fun _ hk _ => hk)
  clear bel1 k1 r1 b2
  go_wp2_with fail
  refine (new_strm _).mono ?_
  rintro e W3 ⟨rfl, s3, b3⟩
  have hgs : w.heap.size < W2.heap.size := k2.lt
  have L3 : LF w W3 W2.heap.size (some ⟨bb, off, none⟩) := ⟨bel2.trans (b3.mono bel2.size), hgs, k2.below b3 k2.lt, r2.below b3 (fun _ _ h => h)⟩
  clear bel2 k2 r2 b3 hgs
  generalize W2.heap.size = gs at s3 L3 ⊢
  have q7 : (7 : Int) ≤ (c1 : Int) := by omega
  have q7n : 7 ≤ c1 := by omega
  have qc7 : ¬ c1 = 7 := by omega
  have f4 := feed_ok (some ⟨bb, off, none⟩) c1 (List.replicate 7 (255 : UInt8)) _ s3 (by simp) (show Reads W3 _ _ ((List.replicate 7 (255 : UInt8)).map vb) from L3.b.take 7)
  have F4 := Lib.hid fun (_ : Unit) => f4
  clear f4
  go_wp2_with fail
  refine (F4.out ()).mono ?_
  rintro e W4 ⟨v4, rfl, hf4⟩
  have s4 : Strm gs W4 gs v4 (List.replicate 7 255) 0 0 (.slice none 0 0) := hf4.s
  have L4 := L3.step hf4.only (turns_ge s3)
  clear hf4 F4 s3 L3
  go_wp2_with fail
  refine (next_part s4 (L4.least hL) (by simp) (by rfl) (.inl rfl)).mono ?_
  rintro e W5 ⟨rfl, b5⟩
  have s5 := s4.below b5
  have L5 := L4.below b5
  have al5 := below_a2 W5 (.cells msgNone 61) (.cells noteNone 68)
  have s6 := s5.below al5
  have L6 := L5.below al5
  unfold nobody msgNone noteNone at *
  clear s4 L4 b5 s5 L5 al5
  obtain ⟨i0, hi, hz0, hz1, hz2⟩ := info_parts infoU8
  have al6 := below_a1 ((W5.alloc (.cells #[.int .i64 0, .slice none 0 0] 61)).alloc (.cells #[.int .i64 0, .int .i64 0, .slice none 0 0] 68)) (.cells #[] 5)
  have s7 := s6.below al6
  have L7 := L6.below al6
  have e7 : (((W5.alloc (.cells #[.int .i64 0, .slice none 0 0] 61)).alloc (.cells #[.int .i64 0, .int .i64 0, .slice none 0 0] 68)).alloc (.cells #[] 5)).ownsRow (W5.heap.size + 2) 5 1 (.slice (some ⟨W5.heap.size + 2, 0, none⟩) 0 0) 0 [] := own_empty _ _ _ _ _ (Nat.le_refl _) (by
    have := heap_alloc_new ((W5.alloc (.cells #[.int .i64 0, .slice none 0 0] 61)).alloc (.cells #[.int .i64 0, .int .i64 0, .slice none 0 0] 68)) (.cells #[] 5)
    simpa using this)
  have r7 : Reads (((W5.alloc (.cells #[.int .i64 0, .slice none 0 0] 61)).alloc (.cells #[.int .i64 0, .int .i64 0, .slice none 0 0] 68)).alloc (.cells #[] 5)) (· < gs) (cutA (some ⟨bb, off, none⟩) c1 7) ((kB.drop 7).map vb) := by
    have := L7.b.cut (c := c1) (by simp [kB]; omega) 7
    rw [← List.map_drop] at this
    exact this
  have g7 : W5.heap.size + 2 ≤ (((W5.alloc (.cells #[.int .i64 0, .slice none 0 0] 61)).alloc (.cells #[.int .i64 0, .int .i64 0, .slice none 0 0] 68)).alloc (.cells #[] 5)).heap.size := by simp
  have hsz : ((W5.alloc (.cells #[.int .i64 0, .slice none 0 0] 61)).alloc (.cells #[.int .i64 0, .int .i64 0, .slice none 0 0] 68)).heap.size = W5.heap.size + 2 := by simp
  rw [hsz] at al6
  have HSZ := Lib.hid fun (_ : Unit) => hsz
  clear hsz s7 L7
  go_wp2_with (first | (refine wpList_cut_from (by rfl) 59 5 (.tmp 55) (.const (.int .i64 7)) (by rfl) Tryd.underlying59 (by kernel_rfl) (some ⟨bb, off, none⟩) 19 c1 7 7 (by rfl) (by rfl) rfl (by omega) ?_) |
    (refine wpList_append_rd _ (by rfl) (.tmp 54) (.tmp 56) 59 rfl (W5.heap.size + 2) 5 i0 (.int .u8 0) 1 1 Tryd.underlying59 hi hz0 hz1 hz2 rfl (by omega) _ 0 [] (by rfl) e7 (· < gs) (cutA (some ⟨bb, off, none⟩) c1 7) 12 (c1 - 7) ((kB.drop 7).map vb) (by rfl) (by rfl) r7 (vb_one _) (by unfold maxLen; omega) (by omega) g7 ?_))
  intro v8 W8 o8 gr8 at8
  have b8 := below_append al6 g7 e7 gr8
  have g8 : W5.heap.size + 2 ≤ W8.heap.size := Nat.le_trans (Nat.le_of_eq (HSZ.out ()).symm) b8.size
  have b9 := b8.alloc g8 (.cells #[.int .u8 0] 5)
  have o9 := own_alive o8 (below_a1 W8 (.cells #[.int .u8 0] 5))
  have r9 : Reads (W8.alloc (.cells #[.int .u8 0] 5)) (fun _ => True) (some ⟨W8.heap.size, 0, none⟩) ([0].map vb) := (reads_of_blk (Blk.new W8 5 #[.int .u8 0])).mono (fun _ _ _ => trivial)
  have g9 : W5.heap.size + 2 ≤ (W8.alloc (.cells #[.int .u8 0] 5)).heap.size := by simp; omega
  clear al6 e7 r7 g7 o8 gr8 at8 b8
  go_wp2_with (refine wpList_append_rd _ (by rfl) (.tmp 57) (.tmp 58) 59 rfl (W5.heap.size + 2) 5 i0 (.int .u8 0) 1 1 Tryd.underlying59 hi hz0 hz1 hz2 rfl (by omega) _ 12 _ (by rfl) o9 (fun _ => True) (some ⟨W8.heap.size, 0, none⟩) 1 1 ([0].map vb) (by rfl) (by rfl) r9 (vb_one _) (by unfold maxLen; omega) (by omega) g9 ?_)
  intro v10 W10 o10 gr10 at10
  have b10 := below_append b9 g9 o9 gr10
  rw [← HSZ.out ()] at b10
  have s10 := s6.below b10
  have L10 := L6.below b10
  obtain ⟨A10, c10, hv10, _, _, _, rd10⟩ := own_reads o10
  have hv10 : v10 = .slice A10 13 c10 := hv10
  subst hv10
  have F11 := Lib.hid fun (_ : Unit) => feed_ok A10 c10 (kB.drop 7 ++ [0]) _ s10 (by simp [kB]) (show Reads W10 _ _ ((kB.drop 7 ++ [0]).map vb) from rd10)
  clear r9 g9 o9 b9 g8 rd10 o10 gr10 at10 b10 s6 L6 HSZ
  go_wp2_with fail
  refine (F11.out ()).mono ?_
  rintro e W11 ⟨v11, rfl, hf11⟩
  have s11 : Strm gs W11 gs v11 (kB ++ [0]) 0 0 (.slice none 0 0) := hf11.s
  have L11 := L10.step hf11.only (turns_ge s10)
  clear F11 hf11 s10 L10
  have N12 := next_msg 19 s11 (L11.least hL) (by simp [kB]) (by rfl) (by decide) (by rfl) (by decide) (by simp [kB])
  rw [show headR (kB ++ [0]) = ⟨4, 19, 0, 0, []⟩ from rfl] at N12
  have HN12 := Lib.hid fun (_ : Unit) => N12
  clear N12
  go_wp2_with fail
  refine (HN12.out ()).mono ?_
  rintro e W12 ⟨vm, v12, rfl, hn12⟩
  obtain ⟨Am, cm, hvm, _, _, _, _⟩ := own_reads hn12.m
  have hvm : vm = .slice Am 0 cm := hvm
  subst hvm
  have s12 : Strm gs W12 gs v12 [0] 0 0 (.slice none 0 0) := hn12.s
  have L12 := L11.step hn12.only (fun k hk => Nat.le_of_eq hk.symm)
  have al12 := below_a2 W12 (.cells #[.int .i64 4, .slice Am 0 cm] 61) (.cells #[.int .i64 0, .int .i64 0, .slice none 0 0] 68)
  have m13 := (Blk.new W12 61 #[.int .i64 4, .slice Am 0 cm]).alloc (.cells #[.int .i64 0, .int .i64 0, .slice none 0 0] 68)
  have s13 := s12.below al12
  have L13 := L12.below al12
  unfold noteNone
  clear HN12 hn12 s11 L11 s12 L12 al12
  go_wp2_with fail
  refine (len_strm s13).mono ?_
  rintro e W14 ⟨rfl, rfl⟩
  generalize hX : (W12.alloc (.cells #[.int .i64 4, .slice Am 0 cm] 61)).alloc (.cells #[.int .i64 0, .int .i64 0, .slice none 0 0] 68) = X at s13 L13 m13 ⊢
  clear hX
  generalize W12.heap.size = hm at m13 ⊢
  go_wp2_with (refine wpList_make_w _ (by rfl) (.const (.int .i64 18)) (.const (.int .i64 18)) 59 rfl X.heap.size 5 i0 (.int .u8 0) 1 Tryd.underlying59 hi hz0 hz1 .i64 .i64 _ _ 18 rfl rfl rfl rfl (by rw [hz2]; omega) (by unfold maxLen; omega) (Nat.le_refl _) ?_)
  intro W15 o15 gr15
  rw [toList_madeCells_one, replicate_vb] at o15
  have b15 : Below X.heap.size X W15 := (Below.refl _ _).grown gr15 (Nat.le_refl _) (fun k hk => by cases hk)
  have s15 := s13.below b15
  have L15 := L13.below b15
  have m15 := m13.below b15 m13.lt
  have nt15 := not_turns s15 m15 (by decide) (by decide)
  have F16 := Lib.hid fun (_ : Unit) => feed_ok (some ⟨X.heap.size, 0, none⟩) 18 (List.replicate 18 (0 : UInt8)) _ s15 (by simp) (show Reads W15 (fun _ => True) _ _ from own_reads1 o15)
  clear o15 gr15 b15 s13 L13 m13
  go_wp2_with fail
  refine (F16.out ()).mono ?_
  rintro e W16 ⟨v16, rfl, hf16⟩
  have s16 : Strm gs W16 gs v16 (0 :: List.replicate 18 0) 0 0 (.slice none 0 0) := hf16.s
  have L16 := L15.step hf16.only (turns_ge s15)
  have m16 := m15.only hf16.only nt15
  have hmg : ¬ hm = gs := fun e => (m15.ne_ s15.blk (by decide)) e
  clear F16 hf16 s15 L15 m15 nt15
  go_wp2_with fail
  refine (next_bad s16 (L16.least hL) (by simp) (by rfl)).mono ?_
  rintro e W17 ⟨A17, c17, rfl, hn17⟩
  obtain ⟨v9, s17⟩ := hn17.s
  have L17 := L16.step hn17.only (fun k hk => Nat.le_of_eq hk.symm)
  have m17 := m16.only hn17.only hmg
  have al17 := below_a2 W17 (.cells #[.int .i64 0, .slice none 0 0] 61) (.cells #[.int .i64 1, .int .i64 1, .slice A17 0 c17] 68)
  have s18 := s17.below al17
  have L18 := L17.below al17
  have m18 := m17.below al17 m17.lt
  have q18 := Blk.new1 W17 (.cells #[.int .i64 0, .slice none 0 0] 61) 68 #[.int .i64 1, .int .i64 1, .slice A17 0 c17]
  unfold msgNone
  clear hn17 s16 L16 m16 s17 L17 m17 al17
  go_wp2_with fail
  refine (feed_closed _ s18 (by decide)).mono ?_
  rintro e W19 ⟨rfl, rfl⟩
  clear s18
  generalize hX2 : (W17.alloc (.cells #[.int .i64 0, .slice none 0 0] 61)).alloc (.cells #[.int .i64 1, .int .i64 1, .slice A17 0 c17] 68) = Y at L18 m18 q18 ⊢
  clear hX2
  generalize W17.heap.size + 1 = hq at q18 ⊢
  have H20 := head_any (some ⟨bb, off, none⟩) c1 kB _ Y hc1 (by simp [kB]) L18.b (L18.least hL)
  rw [kB_head] at H20
  have HH20 := Lib.hid fun (_ : Unit) => H20
  clear H20
  go_wp2_with fail
  refine (HH20.out ()).mono ?_
  rintro e W20 ⟨v20, rfl, hp20⟩
  obtain ⟨A20, c20, hv20, -⟩ := own_reads hp20.own
  have hv20 : v20 = .slice A20 0 c20 := hv20
  subst hv20
  have al20 := below_a1 W20 (.cells #[.int .i64 0, .int .i64 0, .slice A20 0 c20] 68)
  have b21 := hp20.bel.trans (al20.mono hp20.bel.size)
  have L21 := L18.below b21
  have m21 := m18.below b21 m18.lt
  have q21 := q18.below b21 q18.lt
  have n21 := Blk.new W20 68 #[.int .i64 0, .int .i64 0, .slice A20 0 c20]
  simp only [HR.val]
  clear HH20 hp20 L18 m18 q18 b21 al20
  have x15 := reads_some L21.b 15 (.int .u8 255) rfl
  have x17 := reads_some L21.b 17 (.int .u8 19) rfl
  have x18 := reads_some L21.b 18 (.int .u8 4) rfl
  obtain ⟨y0, y1⟩ := blk2c m21
  obtain ⟨z0, z1⟩ := blk2c L21.k
  go_wp2_with fail
  refine (same_msg ⟨4, Am, cm, []⟩ kM _ (fun _ => True) (fun _ => True) Reads.nil Reads.nil).mono ?_
  rintro e W22 ⟨he, b22⟩
  obtain rfl : e = .returned (.bool true) := he
  have L22 := L21.below b22
  have q22 := q21.below b22 q21.lt
  have n22 := n21.below b22 n21.lt
  clear x15 x17 x18 y0 y1 z0 z1 m21 L21 q21 n21 b22
  obtain ⟨z0, z1⟩ := blk2c L22.k
  obtain ⟨q0, q1, _⟩ := blk3 q22
  obtain ⟨r0, _⟩ := blk3 n22
  go_wp2_with fail
  refine (fcheck_any kM _ (by simp [kM]) (L22.least hL)).mono ?_
  rintro e W23 ⟨he, b23⟩
  obtain rfl : e = .returned (.int .i64 0) := he
  have L23 := L22.below b23
  clear z0 z1 q0 q1 r0 q22 n22 L22 b23
  go_wp2_with fail
  go_ret
  exact ⟨rfl, L23.bel⟩
end Go.Proofs.YteokhnkipandbaaDoor
