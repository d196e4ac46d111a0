/-
  The document's queue (bypathref09): New, Put, Take, one contract each. No condition.
-/
import Derived.Test.YtifiabhoeagblaaQueueTake
namespace Go.Proofs.Ytifiabhoeagblaa
open Go.ChangeShapes Go.WideShapes Go.ChangeAt Go.RowKit

/-- the document's queue in memory: its blocks lie in G -/
def XS (w : World) (G : Nat → Prop) (xb : Nat) (bs : List UInt8) (room : Nat) : Prop :=
  (∃ A c, Blk w xb 60 #[.slice A bs.length c, .int .i64 room] ∧ w.ownsRow 0 5 1 (.slice A bs.length c) bs.length (bs.map vb) ∧ ∀ k, (Value.slice A bs.length c).ownBlock = some k → G k) ∧
  G xb ∧ (∀ k, G k → k < w.heap.size) ∧ bs.length ≤ room ∧ room ≤ 65536
theorem XS.only {w w' : World} {G S : Nat → Prop} {xb : Nat} {bs : List UInt8} {room : Nat} (h : XS w G xb bs room) (ho : Only S w w') (hd : ∀ k, G k → ¬ S k) : XS w' G xb bs room := by
  obtain ⟨⟨A, c, h1, h2, h3⟩, h4, h5, h6⟩ := h
  exact ⟨⟨A, c, h1.only ho (hd _ h4), own_only h2 ho (fun k hk => hd k (h3 k hk)), h3⟩, h4, fun k hk => Nat.lt_of_lt_of_le (h5 k hk) ho.size, h6⟩
theorem XS.below {w w' : World} {G : Nat → Prop} {xb : Nat} {bs : List UInt8} {room : Nat} (h : XS w G xb bs room) (hb : Below w.heap.size w w') : XS w' G xb bs room := h.only (S := fun _ => False) (Only.of_below hb) (fun _ _ h => h)
theorem XS.reads {w : World} {G : Nat → Prop} {xb : Nat} {bs : List UInt8} {room : Nat} (h : XS w G xb bs room) : ∃ A c, Blk w xb 60 #[.slice A bs.length c, .int .i64 room] ∧ bs.length ≤ c ∧ c ≤ maxLen ∧ Reads w G A (bs.map vb) := by
  obtain ⟨⟨A, c, h1, h2, h3⟩, _⟩ := h
  obtain ⟨A', c', e, h4, h5, _, h7⟩ := own_reads h2
  injection e with e1 e2 e3
  subst e1; subst e3
  exact ⟨A, c, h1, h4, h5, h7.mono fun b _ hb => h3 b hb.2⟩

theorem x_new_bad (n : Int) (w : World) (h : n < 0 ∨ 65536 < n) : Calls Try.prog 20 #[.int .i64 n] w fun e w' => e = .returned (.pointer none) ∧ w = w' := by
  rcases h with h | h
  · go_enter Try.func20, Try.ntmps20
    go_wp2
    go_ret
    exact ⟨rfl, rfl⟩
  · have h' : ¬ n < 0 := by omega
    go_enter Try.func20, Try.ntmps20
    go_wp2
    go_ret
    exact ⟨rfl, rfl⟩
theorem x_new_ok (n : Nat) (w : World) (h : n ≤ 65536) : Calls Try.prog 20 #[.int .i64 n] w fun e w' => e = .returned (.pointer (some ⟨w.heap.size, 0, none⟩)) ∧
    XS w' (· = w.heap.size) w.heap.size [] n ∧ Below w.heap.size w w' := by
  have h0 : ¬ (n : Int) < 0 := by omega
  have h1 : (n : Int) ≤ 65536 := by omega
  go_enter Try.func20, Try.ntmps20
  go_wp2
  go_ret
  refine ⟨rfl, ⟨⟨none, 0, Blk.new _ _ _, own_nil _ _ _ _, fun k hk => by cases hk⟩, rfl, fun k hk => ?_, by simp, h⟩, (Below.refl _ _).alloc (Nat.le_refl _) _⟩
  subst hk; simp

section
variable {w w' : World} {G : Nat → Prop} {xb : Nat} {bs : List UInt8} {room : Nat}

set_option maxHeartbeats 400000 in
theorem x_put (hX : XS w G xb bs room) (H : Nat → Prop) (Ab : Option Addr) (cb : Nat) (b : List UInt8) (hb : Reads w H Ab (b.map vb)) (hbl : b.length ≤ 9223372036854775807 - 65536) :
    Calls Try.prog 23 #[.pointer (some ⟨xb, 0, none⟩), .slice Ab b.length cb] w fun e w' => e = .returned (.bool (putB room bs b)) ∧
      ∃ G' : Nat → Prop, (∀ k, G' k → G k ∨ w.heap.size ≤ k) ∧ XS w' G' xb (putL room bs b) room ∧ Only (· = xb) w w' := by
  obtain ⟨i0, hi, hz0, hz1, hz2⟩ := info_parts infoU8
  obtain ⟨A, c, hblk, hlc, hcm, hrd⟩ := hX.reads
  have hX0 := hX
  obtain ⟨-, hGx, hGl, hle, hlm⟩ := hX
  have hc0 := hblk.cell 0
  have hc1 := hblk.cell 1
  simp at hc0 hc1
  have hs : IntKind.i64.wrap ((bs.length : Int) + (b.length : Int)) = (bs.length : Int) + (b.length : Int) := IntWalk.i64_in _ (by omega)
  by_cases hfit : bs.length + b.length ≤ room
  · have hd : decide ((room : Int) < (bs.length : Int) + (b.length : Int)) = false := by simp; omega
    have HB := Lib.hid (show putB room bs b = true from by simpa [putB] using hfit)
    have HL := Lib.hid (show putL room bs b = bs ++ b from if_pos hfit)
    go_enter Try.func23, Try.ntmps23
    go_wp2_with fail
    go_quiet (fail)
    have hblk1 : Blk (w.drewN nq) xb 60 #[.slice A bs.length c, .int .i64 room] := hblk
    have hrd1 := hrd.drewN nq
    have hb1 := hb.drewN nq
    have ho1 := (Only.refl (· = xb) w).drewN nq
    have hsz1 : (w.drewN nq).heap.size = w.heap.size := rfl
    clear hc0 hc1
    generalize w.drewN nq = W at hblk1 hrd1 hb1 ho1 hsz1 ⊢
    have HZ := Lib.hid hsz1
    have hc0 := hblk1.cell 0
    simp at hc0
    clear hsz1 hb hrd hblk
    have hcA : (W.alloc (.cells #[] 5)).cell? ⟨xb, 0, none⟩ = some (.slice A bs.length c) := by have := (hblk1.alloc (.cells #[] 5)).cell 0; simpa using this
    go_wp2_with (refine wpList_append_rd _ rfl (.tmp 19) (.tmp 23) 54 rfl W.heap.size 5 i0 (.int .u8 0) 1 1 Try.underlying54 hi hz0 hz1 hz2 rfl (by omega) _ 0 [] (by rfl) (own_empty _ _ _ _ _ (Nat.le_refl _) (heap_alloc_new W _)) G A bs.length c (bs.map vb) (by rfl) (by simp) (hrd1.alloc _) (vb_one bs) (by unfold maxLen; omega) (by omega) (by simp) ?_)
    intro v1 w1 hown1 hg1 hat1
    have hbw1 : Below W.heap.size W w1 := ((Below.refl _ _).alloc (Nat.le_refl _) _).grown hg1 (by simp) (fun k hk => by simp [Value.ownBlock] at hk; omega)
    have hbb1 := hb1.below hbw1 (fun _ h _ => h)
    clear hg1 hat1 hc0 hcA hb1 hrd1
    go_wp2_with (refine wpList_append_rd _ rfl (.tmp 24) (.tmp 25) 54 rfl W.heap.size 5 i0 (.int .u8 0) 1 1 Try.underlying54 hi hz0 hz1 hz2 rfl (by omega) v1 bs.length (bs.map vb) (by rfl) hown1 H Ab b.length cb (b.map vb) (by rfl) (by simp) hbb1 (vb_one b) (by unfold maxLen; omega) (by omega) hbw1.size ?_)
    intro v2 w2 hown2 hg2 hat2
    have hbw2 : Below W.heap.size W w2 := below_append hbw1 hbw1.size hown1 hg2
    obtain ⟨A2, c2, rfl⟩ := own_len hown2
    have hblk2 := hblk1.below hbw2 hblk1.lt
    have hf0 := hblk2.frozen 0
    have hc0 := hblk2.cell 0
    simp at hc0
    have hxl := hblk1.lt
    rw [← List.map_append, ← List.length_append] at hown2
    have hfin : XS (w2.setCell ⟨xb, 0, none⟩ (.slice A2 (bs ++ b).length c2)) (fun k => k = xb ∨ (Value.slice A2 (bs ++ b).length c2).ownBlock = some k) xb (bs ++ b) room := by
      refine ⟨⟨A2, c2, ?_, ?_, fun k hk => .inr hk⟩, .inl rfl, ?_, by simpa using hfit, hlm⟩
      · have := hblk2.set_ 0 (.slice A2 (bs ++ b).length c2)
        simpa using this
      · exact own_mono (ownsRow_setCell_below hown2 (a := ⟨xb, 0, none⟩) hxl _) (Nat.zero_le _)
      · rintro k (rfl | hk)
        · have := hbw2.size; simp; omega
        · have := (hown2.lt k hk).2; simpa using this
    have hG' : ∀ k, (k = xb ∨ (Value.slice A2 (bs ++ b).length c2).ownBlock = some k) → G k ∨ w.heap.size ≤ k := by
      rintro k (rfl | hk)
      · exact .inl hGx
      · have := (hown2.lt k hk).1; rw [HZ.out] at this; exact .inr this
    have hoF : Only (· = xb) w (w2.setCell ⟨xb, 0, none⟩ (.slice A2 (bs ++ b).length c2)) := (ho1.trans (Only.of_below (S := (· = xb)) hbw2) (fun _ _ h => h)).setCell (p := ⟨xb, 0, none⟩) (fun _ => rfl) _
    rw [List.length_append] at hfin hG' hoF
    have HF := Lib.hid hfin
    have HG := Lib.hid hG'
    clear hfin hG' hblk1 hblk2 hown2 hown1 hg2 hat2 hbw1 hbw2 hbb1
    go_wp2_with fail
    go_ret
    exact ⟨by rw [HB.out]; rfl, _, HG.out, by rw [HL.out]; exact HF.out, hoF⟩
  · have hd : (room : Int) < (bs.length : Int) + (b.length : Int) := by omega
    have HB := Lib.hid (show putB room bs b = false from by simpa [putB] using hfit)
    have HL := Lib.hid (show putL room bs b = bs from if_neg hfit)
    clear hb hblk hfit
    go_enter Try.func23, Try.ntmps23
    go_wp2_with fail
    go_quiet (fail)
    go_wp2_with fail
    go_ret
    exact ⟨by rw [HB.out]; rfl, G, fun k hk => .inl hk, by rw [HL.out]; exact hX0.below ⟨rfl, rfl, rfl, Nat.le_refl _, fun _ _ => rfl⟩, (Only.refl _ _).drewN _⟩

/-- behind the clamp of n: the two appends, the store, the return -/
theorem x_fin {w W w1 w2 : World} {G : Nat → Prop} {A : Option Addr} {c m : Nat} {A2 : Option Addr} {c2 : Nat} (hXb : Blk W xb 60 #[.slice A bs.length c, .int .i64 room]) (ho : Only (· = xb) w W) (hGx : G xb) (hle : bs.length ≤ room) (hlm : room ≤ 65536)
    (hb1 : Below W.heap.size W w1) (hb2 : Below w1.heap.size w1 w2) (hown2 : w2.ownsRow w1.heap.size 5 1 (.slice A2 (bs.drop m).length c2) (bs.drop m).length ((bs.drop m).map vb)) :
    (∀ k, (k = xb ∨ (Value.slice A2 (bs.drop m).length c2).ownBlock = some k) → G k ∨ w.heap.size ≤ k) ∧
    XS (w2.setCell ⟨xb, 0, none⟩ (.slice A2 (bs.drop m).length c2)) (fun k => k = xb ∨ (Value.slice A2 (bs.drop m).length c2).ownBlock = some k) xb (bs.drop m) room ∧
    Only (· = xb) w (w2.setCell ⟨xb, 0, none⟩ (.slice A2 (bs.drop m).length c2)) := by
  have hs1 := hb1.size
  have hs2 := hb2.size
  have hs0 := ho.size
  have hxl := hXb.lt
  have hblk2 := (hXb.below hb1 hxl).below hb2 (by omega)
  refine ⟨?_, ⟨⟨A2, c2, ?_, ?_, fun k hk => .inr hk⟩, .inl rfl, ?_, by simp; omega, hlm⟩, ?_⟩
  · rintro k (rfl | hk)
    · exact .inl hGx
    · have := (hown2.lt k hk).1; exact .inr (by omega)
  · have := hblk2.set_ 0 (.slice A2 (bs.drop m).length c2)
    simpa using this
  · exact own_mono (ownsRow_setCell_below hown2 (a := ⟨xb, 0, none⟩) (show xb < w1.heap.size by omega) _) (Nat.zero_le _)
  · rintro k (rfl | hk)
    · simp; omega
    · have := (hown2.lt k hk).2; simpa using this
  · exact ((ho.trans (Only.of_below (S := (· = xb)) hb1) (fun _ _ h => h)).trans (Only.of_below (S := (· = xb)) hb2) (fun _ _ h => h)).setCell (p := ⟨xb, 0, none⟩) (fun _ => rfl) _

set_option maxHeartbeats 1000000 in
theorem x_take (hX : XS w G xb bs room) (n : Int) :
    Calls Try.prog 25 #[.pointer (some ⟨xb, 0, none⟩), .int .i64 n] w fun e w' => ∃ v, e = .returned v ∧
      w'.ownsRow w.heap.size 5 1 v (takeN n bs.length) ((bs.take (takeN n bs.length)).map vb) ∧
      ∃ G' : Nat → Prop, (∀ k, G' k → G k ∨ w.heap.size ≤ k) ∧ XS w' G' xb (bs.drop (takeN n bs.length)) room ∧ Only (· = xb) w w' := by
  obtain ⟨i0, hi, hz0, hz1, hz2⟩ := info_parts infoU8
  obtain ⟨A, c, hblk, hlc, hcm, hrd⟩ := hX.reads
  obtain ⟨-, hGx, hGl, hle, hlm⟩ := hX
  obtain ⟨m, hm⟩ : ∃ m, takeN n bs.length = m := ⟨_, rfl⟩
  have hmle : m ≤ bs.length := by simp only [takeN] at hm; omega
  have hcase : (n < 0 ∧ m = 0) ∨ (n = (m : Int)) ∨ ((bs.length : Int) < n ∧ m = bs.length) := by simp only [takeN] at hm; omega
  rw [hm]
  clear hm
  have hsz : (Try.prog.info? 5).map (·.size) = some 1 := by rw [hi]; simp [hz1]
  have hc0 := hblk.cell 0
  simp at hc0
  have hmi : ¬ ((bs.length : Int) < (m : Int)) := by omega
  have hm0 : ¬ ((m : Int) < 0) := by omega
  rcases hcase with ⟨h1, rfl⟩ | rfl | ⟨h1, rfl⟩
  · have hcA : (w.alloc (.cells #[] 5)).cell? ⟨xb, 0, none⟩ = some (.slice A bs.length c) := by have := (hblk.alloc (.cells #[] 5)).cell 0; simpa using this
    have hrdT : Reads (w.alloc (.cells #[] 5)) G (cutA A c 0) ((bs.take 0).map vb) := by
      have := ((hrd.alloc (.cells #[] 5)).cut (c := c) (by simp <;> omega) 0).take 0
      rw [List.drop_zero, ← List.map_take] at this
      exact this
    go_enter Try.func25, Try.ntmps25
    go_wp2_with (first | (refine wpList_cut_to (by rfl) 54 5 (.tmp 24) (.tmp 25) rfl Try.underlying54 hsz A bs.length c 0 0 (by rfl) (by rfl) (by simp) (by omega) ?_) | (refine wpList_append_rd _ rfl (.tmp 20) (.tmp 26) 54 rfl w.heap.size 5 i0 (.int .u8 0) 1 1 Try.underlying54 hi hz0 hz1 hz2 rfl (by omega) _ 0 [] (by rfl) (own_empty _ _ _ _ _ (Nat.le_refl _) (heap_alloc_new w _)) G (cutA A c 0) 0 c ((bs.take 0).map vb) (by rfl) (by simp <;> omega) hrdT (vb_one _) (by unfold maxLen; omega) (by omega) (by simp) ?_))
    intro v1 w1 hown1 hg1 hat1
    have hown1 : w1.ownsRow w.heap.size 5 1 v1 0 ((bs.take 0).map vb) := by simpa using hown1
    have hb1 : Below w.heap.size w w1 := ((Below.refl _ _).alloc (Nat.le_refl _) _).grown hg1 (by simp) (fun k hk => by simp [Value.ownBlock] at hk; omega)
    clear hg1 hat1 hcA hc0 hrdT
    have hblk1 := hblk.below hb1 hblk.lt
    have hc1 : w1.cell? ⟨xb, 0, none⟩ = some (.slice A bs.length c) := by have := hblk1.cell 0; simpa using this
    have hcA1 : (w1.alloc (.cells #[] 5)).cell? ⟨xb, 0, none⟩ = some (.slice A bs.length c) := by have := (hblk1.alloc (.cells #[] 5)).cell 0; simpa using this
    have hrdD : Reads (w1.alloc (.cells #[] 5)) G (cutA A c 0) ((bs.drop 0).map vb) := by
      have := ((hrd.below hb1 (fun _ hh _ => hh)).alloc (.cells #[] 5)).cut (c := c) (by simp <;> omega) 0
      rw [← List.map_drop] at this
      exact this
    go_wp2_with (first | (refine wpList_cut_from (by rfl) 54 5 (.tmp 33) (.tmp 34) rfl Try.underlying54 hsz A bs.length c 0 0 (by rfl) (by rfl) (by simp) (by omega) ?_) | (refine wpList_append_rd _ rfl (.tmp 29) (.tmp 35) 54 rfl w1.heap.size 5 i0 (.int .u8 0) 1 1 Try.underlying54 hi hz0 hz1 hz2 rfl (by omega) _ 0 [] (by rfl) (own_empty _ _ _ _ _ (Nat.le_refl _) (heap_alloc_new w1 _)) G (cutA A c 0) (bs.length - 0) (c - 0) ((bs.drop 0).map vb) (by rfl) (by simp) hrdD (vb_one _) (by unfold maxLen; omega) (by omega) (by simp) ?_))
    intro v2 w2 hown2 hg2 hat2
    have hown2 : w2.ownsRow w1.heap.size 5 1 v2 (bs.drop 0).length ((bs.drop 0).map vb) := by simpa using hown2
    have hb2 : Below w1.heap.size w1 w2 := ((Below.refl _ _).alloc (Nat.le_refl _) _).grown hg2 (by simp) (fun k hk => by simp [Value.ownBlock] at hk; omega)
    obtain ⟨A2, c2, rfl⟩ := own_len hown2
    have hblk2 := hblk1.below hb2 hblk1.lt
    have hf0 := hblk2.frozen 0
    have hc2 := hblk2.cell 0
    simp at hc2
    obtain ⟨f1, f2, f3⟩ := x_fin (G := G) (m := 0) hblk (Only.refl (· = xb) w) hGx hle hlm hb1 hb2 hown2
    have hv1 : (w2.setCell ⟨xb, 0, none⟩ (.slice A2 (bs.drop 0).length c2)).ownsRow w.heap.size 5 1 v1 0 ((bs.take 0).map vb) :=
      ownsRow_setCell_below (own_below hown1 hb2 (Nat.le_refl _)) (a := ⟨xb, 0, none⟩) hblk.lt _
    rw [List.length_drop] at f1 f2 f3 hv1
    have HF1 := Lib.hid f1
    have HF2 := Lib.hid f2
    have HV1 := Lib.hid hv1
    clear hg2 hat2 f1 f2 hv1 hown1 hown2 hb1 hb2 hblk1 hblk2 hcA1 hrdD hc1
    rw [List.length_drop]
    go_wp2_with fail
    go_ret
    exact ⟨v1, rfl, HV1.out, _, HF1.out, HF2.out, f3⟩
  · have hcA : (w.alloc (.cells #[] 5)).cell? ⟨xb, 0, none⟩ = some (.slice A bs.length c) := by have := (hblk.alloc (.cells #[] 5)).cell 0; simpa using this
    have hrdT : Reads (w.alloc (.cells #[] 5)) G (cutA A c 0) ((bs.take m).map vb) := by
      have := ((hrd.alloc (.cells #[] 5)).cut (c := c) (by simp <;> omega) 0).take m
      rw [List.drop_zero, ← List.map_take] at this
      exact this
    go_enter Try.func25, Try.ntmps25
    go_wp2_with (first | (refine wpList_cut_to (by rfl) 54 5 (.tmp 24) (.tmp 25) rfl Try.underlying54 hsz A bs.length c m (m : Int) (by rfl) (by rfl) (by simp) (by omega) ?_) | (refine wpList_append_rd _ rfl (.tmp 20) (.tmp 26) 54 rfl w.heap.size 5 i0 (.int .u8 0) 1 1 Try.underlying54 hi hz0 hz1 hz2 rfl (by omega) _ 0 [] (by rfl) (own_empty _ _ _ _ _ (Nat.le_refl _) (heap_alloc_new w _)) G (cutA A c 0) m c ((bs.take m).map vb) (by rfl) (by simp <;> omega) hrdT (vb_one _) (by unfold maxLen; omega) (by omega) (by simp) ?_))
    intro v1 w1 hown1 hg1 hat1
    have hown1 : w1.ownsRow w.heap.size 5 1 v1 m ((bs.take m).map vb) := by simpa using hown1
    have hb1 : Below w.heap.size w w1 := ((Below.refl _ _).alloc (Nat.le_refl _) _).grown hg1 (by simp) (fun k hk => by simp [Value.ownBlock] at hk; omega)
    clear hg1 hat1 hcA hc0 hrdT
    have hblk1 := hblk.below hb1 hblk.lt
    have hc1 : w1.cell? ⟨xb, 0, none⟩ = some (.slice A bs.length c) := by have := hblk1.cell 0; simpa using this
    have hcA1 : (w1.alloc (.cells #[] 5)).cell? ⟨xb, 0, none⟩ = some (.slice A bs.length c) := by have := (hblk1.alloc (.cells #[] 5)).cell 0; simpa using this
    have hrdD : Reads (w1.alloc (.cells #[] 5)) G (cutA A c m) ((bs.drop m).map vb) := by
      have := ((hrd.below hb1 (fun _ hh _ => hh)).alloc (.cells #[] 5)).cut (c := c) (by simp <;> omega) m
      rw [← List.map_drop] at this
      exact this
    go_wp2_with (first | (refine wpList_cut_from (by rfl) 54 5 (.tmp 33) (.tmp 34) rfl Try.underlying54 hsz A bs.length c m (m : Int) (by rfl) (by rfl) (by simp) (by omega) ?_) | (refine wpList_append_rd _ rfl (.tmp 29) (.tmp 35) 54 rfl w1.heap.size 5 i0 (.int .u8 0) 1 1 Try.underlying54 hi hz0 hz1 hz2 rfl (by omega) _ 0 [] (by rfl) (own_empty _ _ _ _ _ (Nat.le_refl _) (heap_alloc_new w1 _)) G (cutA A c m) (bs.length - m) (c - m) ((bs.drop m).map vb) (by rfl) (by simp) hrdD (vb_one _) (by unfold maxLen; omega) (by omega) (by simp) ?_))
    intro v2 w2 hown2 hg2 hat2
    have hown2 : w2.ownsRow w1.heap.size 5 1 v2 (bs.drop m).length ((bs.drop m).map vb) := by simpa using hown2
    have hb2 : Below w1.heap.size w1 w2 := ((Below.refl _ _).alloc (Nat.le_refl _) _).grown hg2 (by simp) (fun k hk => by simp [Value.ownBlock] at hk; omega)
    obtain ⟨A2, c2, rfl⟩ := own_len hown2
    have hblk2 := hblk1.below hb2 hblk1.lt
    have hf0 := hblk2.frozen 0
    have hc2 := hblk2.cell 0
    simp at hc2
    obtain ⟨f1, f2, f3⟩ := x_fin (G := G) (m := m) hblk (Only.refl (· = xb) w) hGx hle hlm hb1 hb2 hown2
    have hv1 : (w2.setCell ⟨xb, 0, none⟩ (.slice A2 (bs.drop m).length c2)).ownsRow w.heap.size 5 1 v1 m ((bs.take m).map vb) :=
      ownsRow_setCell_below (own_below hown1 hb2 (Nat.le_refl _)) (a := ⟨xb, 0, none⟩) hblk.lt _
    rw [List.length_drop] at f1 f2 f3 hv1
    have HF1 := Lib.hid f1
    have HF2 := Lib.hid f2
    have HV1 := Lib.hid hv1
    clear hg2 hat2 f1 f2 hv1 hown1 hown2 hb1 hb2 hblk1 hblk2 hcA1 hrdD hc1
    rw [List.length_drop]
    go_wp2_with fail
    go_ret
    exact ⟨v1, rfl, HV1.out, _, HF1.out, HF2.out, f3⟩
  · have hcA : (w.alloc (.cells #[] 5)).cell? ⟨xb, 0, none⟩ = some (.slice A bs.length c) := by have := (hblk.alloc (.cells #[] 5)).cell 0; simpa using this
    have hrdT : Reads (w.alloc (.cells #[] 5)) G (cutA A c 0) ((bs.take bs.length).map vb) := by
      have := ((hrd.alloc (.cells #[] 5)).cut (c := c) (by simp <;> omega) 0).take bs.length
      rw [List.drop_zero, ← List.map_take] at this
      exact this
    go_enter Try.func25, Try.ntmps25
    go_wp2_with (first | (refine wpList_cut_to (by rfl) 54 5 (.tmp 24) (.tmp 25) rfl Try.underlying54 hsz A bs.length c bs.length (bs.length : Int) (by rfl) (by rfl) (by simp) (by omega) ?_) | (refine wpList_append_rd _ rfl (.tmp 20) (.tmp 26) 54 rfl w.heap.size 5 i0 (.int .u8 0) 1 1 Try.underlying54 hi hz0 hz1 hz2 rfl (by omega) _ 0 [] (by rfl) (own_empty _ _ _ _ _ (Nat.le_refl _) (heap_alloc_new w _)) G (cutA A c 0) bs.length c ((bs.take bs.length).map vb) (by rfl) (by simp <;> omega) hrdT (vb_one _) (by unfold maxLen; omega) (by omega) (by simp) ?_))
    intro v1 w1 hown1 hg1 hat1
    have hown1 : w1.ownsRow w.heap.size 5 1 v1 bs.length ((bs.take bs.length).map vb) := by simpa using hown1
    have hb1 : Below w.heap.size w w1 := ((Below.refl _ _).alloc (Nat.le_refl _) _).grown hg1 (by simp) (fun k hk => by simp [Value.ownBlock] at hk; omega)
    clear hg1 hat1 hcA hc0 hrdT
    have hblk1 := hblk.below hb1 hblk.lt
    have hc1 : w1.cell? ⟨xb, 0, none⟩ = some (.slice A bs.length c) := by have := hblk1.cell 0; simpa using this
    have hcA1 : (w1.alloc (.cells #[] 5)).cell? ⟨xb, 0, none⟩ = some (.slice A bs.length c) := by have := (hblk1.alloc (.cells #[] 5)).cell 0; simpa using this
    have hrdD : Reads (w1.alloc (.cells #[] 5)) G (cutA A c bs.length) ((bs.drop bs.length).map vb) := by
      have := ((hrd.below hb1 (fun _ hh _ => hh)).alloc (.cells #[] 5)).cut (c := c) (by simp <;> omega) bs.length
      rw [← List.map_drop] at this
      exact this
    go_wp2_with (first | (refine wpList_cut_from (by rfl) 54 5 (.tmp 33) (.tmp 34) rfl Try.underlying54 hsz A bs.length c bs.length (bs.length : Int) (by rfl) (by rfl) (by simp) (by omega) ?_) | (refine wpList_append_rd _ rfl (.tmp 29) (.tmp 35) 54 rfl w1.heap.size 5 i0 (.int .u8 0) 1 1 Try.underlying54 hi hz0 hz1 hz2 rfl (by omega) _ 0 [] (by rfl) (own_empty _ _ _ _ _ (Nat.le_refl _) (heap_alloc_new w1 _)) G (cutA A c bs.length) (bs.length - bs.length) (c - bs.length) ((bs.drop bs.length).map vb) (by rfl) (by simp) hrdD (vb_one _) (by unfold maxLen; omega) (by omega) (by simp) ?_))
    intro v2 w2 hown2 hg2 hat2
    have hown2 : w2.ownsRow w1.heap.size 5 1 v2 (bs.drop bs.length).length ((bs.drop bs.length).map vb) := by simpa using hown2
    have hb2 : Below w1.heap.size w1 w2 := ((Below.refl _ _).alloc (Nat.le_refl _) _).grown hg2 (by simp) (fun k hk => by simp [Value.ownBlock] at hk; omega)
    obtain ⟨A2, c2, rfl⟩ := own_len hown2
    have hblk2 := hblk1.below hb2 hblk1.lt
    have hf0 := hblk2.frozen 0
    have hc2 := hblk2.cell 0
    simp at hc2
    obtain ⟨f1, f2, f3⟩ := x_fin (G := G) (m := bs.length) hblk (Only.refl (· = xb) w) hGx hle hlm hb1 hb2 hown2
    have hv1 : (w2.setCell ⟨xb, 0, none⟩ (.slice A2 (bs.drop bs.length).length c2)).ownsRow w.heap.size 5 1 v1 bs.length ((bs.take bs.length).map vb) :=
      ownsRow_setCell_below (own_below hown1 hb2 (Nat.le_refl _)) (a := ⟨xb, 0, none⟩) hblk.lt _
    rw [List.length_drop, Nat.sub_self] at f1 f2 f3 hv1
    have HF1 := Lib.hid f1
    have HF2 := Lib.hid f2
    have HV1 := Lib.hid hv1
    clear hg2 hat2 f1 f2 hv1 hown1 hown2 hb1 hb2 hblk1 hblk2 hcA1 hrdD hc1
    rw [List.length_drop]
    go_wp2_with fail
    go_ret
    exact ⟨v1, rfl, HV1.out, _, HF1.out, HF2.out, f3⟩
end
end Go.Proofs.Ytifiabhoeagblaa
