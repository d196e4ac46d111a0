/-
  Any calls of a reader of any bytes, held against the document's reader: the walk of 'NumReads'. No condition but that the arguments read as data.
-/
import Derived.Test.YteokhnkipandbaaNumLives
import Derived.Deep.RegionHeld3
import Derived.Deep.QuietTactic
import Derived.LoopTactic
namespace Go.Proofs.Yteokhnkipandbaa
open Go.ChangeShapes Go.WideShapes Go.ChangeAt Go.RowKit

theorem below_drewR {B : Nat} {a w : World} (h : Below B a w) : Below B a w.drew := ⟨h.os, h.tape, h.output, h.size, h.block⟩
theorem wpAnyH_strongR {P : Program} {md : Region.Mode} {ops : Array Oper} {Q : Exit → Act → World → Prop} {S S' : World → Prop} (h : ∀ w, S' w → S w) : ∀ (fuel : Nat) (listed : Array Bool) (a : Act) (w : World), wpAnyH P md ops Q S' fuel listed a w → wpAnyH P md ops Q S fuel listed a w
  | 0, _, _, _, hh => hh
  | fuel + 1, _, _, _, hh => ⟨hh.1, fun i hi => wpOp_mono (fun a w hk => ⟨h w hk.1, wpAnyH_strongR h fuel _ a w hk.2⟩) (hh.2 i hi)⟩

/-- one call: its kind, its number -/
structure RdOp where
  K : Int
  N : Int
def RdOp.cells (r : RdOp) : List Value := [.int .i64 r.K, .int .i64 r.N]
theorem rdops_at : ∀ (l : List RdOp) (k : Nat) (h : k < l.length), (l.flatMap RdOp.cells)[2 * k]? = some (.int .i64 l[k].K) ∧ (l.flatMap RdOp.cells)[2 * k + 1]? = some (.int .i64 l[k].N)
  | [], k, h => by simp at h
  | r :: l, 0, h => by simp [RdOp.cells]
  | r :: l, k + 1, h => by
    have := rdops_at l k (by simpa using h)
    simp only [List.flatMap_cons, RdOp.cells, Nat.mul_add, List.getElem_cons_succ]
    simpa [RdOp.cells, show ∀ n, 2 * k + 2 + n = 2 * k + n + 2 by intro n; omega] using this

/-- the program's reader and the document's, apart, with the same bytes -/
structure NR (w W : World) (F G : Nat → Prop) (rb xb : Nat) (bs : List UInt8) (bad : Bool) : Prop where
  r : RD W F 109 rb bs bad
  x : RD W G 45 xb bs bad
  ne : rb ≠ xb
  fx : ¬ F xb
  gr : ¬ G rb
  lr : w.heap.size ≤ rb
  lx : w.heap.size ≤ xb
  bel : Below w.heap.size w W
section
variable {w W W' W1 W2 : World} {F G : Nat → Prop} {rb xb : Nat} {bs bs' : List UInt8} {bad bad' : Bool}
theorem NR.below (h : NR w W F G rb xb bs bad) (hb : Below W.heap.size W W') : NR w W' F G rb xb bs bad := ⟨h.r.below hb, h.x.below hb, h.ne, h.fx, h.gr, h.lr, h.lx, h.bel.trans (hb.mono h.bel.size)⟩
theorem NR.drewN (h : NR w W F G rb xb bs bad) (n : Nat) : NR w (W.drewN n) F G rb xb bs bad := h.below ⟨rfl, rfl, rfl, Nat.le_refl _, fun _ _ => rfl⟩
theorem NR.drew (h : NR w W F G rb xb bs bad) : NR w W.drew F G rb xb bs bad := h.below ⟨rfl, rfl, rfl, Nat.le_refl _, fun _ _ => rfl⟩
theorem NR.x1 (h : NR w W F G rb xb bs bad) (ho : Only (· = rb) W W1) : RD W1 G 45 xb bs bad := h.x.only ho (fun e => h.ne e.symm) (fun _ hk e => h.gr (e ▸ hk))
theorem NR.both (h : NR w W F G rb xb bs bad) (hr : RD W1 F 109 rb bs' bad') (ho : Only (· = rb) W W1) (hx : RD W2 G 45 xb bs' bad') (hox : Only (· = xb) W1 W2) : NR w W2 F G rb xb bs' bad' :=
  ⟨hr.only hox h.ne (fun _ hk e => h.fx (e ▸ hk)), hx, h.ne, h.fx, h.gr, h.lr, h.lx,
    (h.bel.trans (ho.below h.bel.size (fun k hk => by have := h.lr; omega))).trans (hox.below (by have := h.bel.size; have := ho.size; omega) (fun k hk => by have := h.lx; omega))⟩
end

set_option maxRecDepth 10000 in
set_option maxHeartbeats 4000000 in
theorem num_reads_walk (A : Option Addr) (c : Nat) (l : List UInt8) (A2 : Option Addr) (c2 : Nat) (ops : List RdOp) (F0 : Nat → Prop) (w : World) (hl : l.length ≤ 9223372036854775807) (hlo : ops.length ≤ 9223372036854775807) (hr : Reads w F0 A (l.map vb)) (hro : Reads w F0 A2 (ops.flatMap RdOp.cells)) :
    Calls Try.prog 9 #[.slice A l.length c, .slice A2 ops.length c2] w fun e w' => e = .returned (.bool true) ∧ Below w.heap.size w w' := by
  obtain ⟨i0, hi, hz0, hz1, hz2⟩ := info_parts infoU8
  by_cases h1 : (2000 : Int) < l.length
  case pos =>
    go_enter Try.func9, Try.ntmps9
    go_wp2_with fail
    refine (num_lives _).mono ?_
    rintro e W ⟨rfl, hb⟩
    go_wp2_with fail
    go_ret
    exact ⟨rfl, hb⟩
  by_cases h2 : (200 : Int) < ops.length
  case pos =>
    go_enter Try.func9, Try.ntmps9
    go_wp2_with fail
    refine (num_lives _).mono ?_
    rintro e W ⟨rfl, hb⟩
    go_wp2_with fail
    go_ret
    exact ⟨rfl, hb⟩
  have hr := hr.mono (G := (· < w.heap.size)) (fun k hk _ => hk)
  have hro := hro.mono (G := (· < w.heap.size)) (fun k hk _ => hk)
  go_enter Try.func9, Try.ntmps9
  go_wp2_with (refine wpList_append_rd _ rfl (.tmp 18) (.tmp 19) 22 rfl w.heap.size 5 i0 (.int .u8 0) 1 1 Try.underlying22 hi hz0 hz1 hz2 rfl (by omega) _ 0 [] (by rfl) (own_empty _ _ _ _ _ (Nat.le_refl _) (heap_alloc_new w _)) (· < w.heap.size) A l.length c (l.map vb) (by rfl) (by simp) (hr.alloc _) (vb_one l) (by unfold maxLen; omega) (by omega) (by simp) ?_)
  intro v1 W1 own1 g1 _
  have own1 : W1.ownsRow w.heap.size 5 1 v1 l.length (l.map vb) := by simpa using own1
  have bel1 : Below w.heap.size w W1 := ((Below.refl _ _).alloc (Nat.le_refl _) _).grown g1 (by simp) (fun k hk => by simp [Value.ownBlock] at hk; omega)
  obtain ⟨A1, c1, hv, _, r1⟩ := own_rd own1 rfl
  subst hv
  clear own1 g1
  go_wp2_with fail
  refine (from_any A1 c1 l _ _ (by omega) r1).mono ?_
  rintro e W2 ⟨rb, F, rfl, rd2, hlr, hF, bel2⟩
  have belA := bel1.trans (bel2.mono bel1.size)
  have hs1 := bel1.size
  have hs2 := bel2.size
  clear r1 bel2
  go_wp2_with (refine wpList_append_rd _ rfl (.tmp 22) (.tmp 23) 22 rfl W2.heap.size 5 i0 (.int .u8 0) 1 1 Try.underlying22 hi hz0 hz1 hz2 rfl (by omega) _ 0 [] (by rfl) (own_empty _ _ _ _ _ (Nat.le_refl _) (heap_alloc_new W2 _)) (· < w.heap.size) A l.length c (l.map vb) (by rfl) (by simp) ((hr.below belA (fun _ _ h => h)).alloc _) (vb_one l) (by unfold maxLen; omega) (by omega) (by simp) ?_)
  intro v3 W3 own3 g3 _
  have own3 : W3.ownsRow W2.heap.size 5 1 v3 l.length (l.map vb) := by simpa using own3
  have bel3 : Below W2.heap.size W2 W3 := ((Below.refl _ _).alloc (Nat.le_refl _) _).grown g3 (by simp) (fun k hk => by simp [Value.ownBlock] at hk; omega)
  obtain ⟨A3, c3, hv, hlc3, hcm3, hn3, r3⟩ := own_reads own3
  subst hv
  have rd3 := rd2.below bel3
  have hs3 := bel3.size
  have n3 : NR w (W3.alloc (.cells #[.slice A3 l.length c3, .bool false] 45)) F (fun k => W2.heap.size ≤ k ∧ k < W3.heap.size) rb W3.heap.size l false :=
    ⟨rd3.below ((Below.refl _ _).alloc (Nat.le_refl _) _), ⟨⟨A3, c3, Blk.new _ _ _, by simpa using hlc3, hcm3, hn3, (r3.mono (fun k hk h => ⟨h.1, hk⟩)).alloc _⟩, by simp, fun k hk => by simp; omega⟩, by have := rd3.blt; omega, fun h => by have := rd3.lt _ h; omega, fun h => by have := rd2.blt; omega, by omega, by omega,
      (belA.trans (bel3.mono (by omega))).alloc (by omega) _⟩
  clear own3 g3 bel3 r3 rd3 rd2 hlc3 hcm3 hn3 hF hlr
  generalize (fun k => W2.heap.size ≤ k ∧ k < W3.heap.size) = G at n3
  go_wp2_with fail
  revert n3
  generalize W3.alloc (.cells #[.slice A3 l.length c3, .bool false] 45) = W4
  generalize W3.heap.size = xb
  intro n4
  refine (num_lives _).mono ?_
  rintro e W5 ⟨rfl, hb5⟩
  have n5 := n4.below hb5
  clear n4 hb5 belA bel1
  go_wp2_with fail
  go_loopw [7] (fun i wr => ∃ (k : Nat) (bs : List UInt8) (bad : Bool), k ≤ ops.length ∧ i = .int .i64 k ∧ bs.length ≤ 2000 ∧ NR w wr F G rb xb bs bad) (fun i _ => ops.length - (intOf i).toNat)
  case atStart => exact ⟨0, l, false, by omega, rfl, by omega, n5⟩
  case round =>
    obtain ⟨k, bs, bad, hk, rfl, hbs, o⟩ := hrel
    clear n5
    by_cases hkl : k < ops.length
    case neg =>
      have i0 : ¬ (k : Int) < (ops.length : Int) := by omega
      go_wp2_with fail
      refine (num_nil _ _).mono ?_
      rintro e w' ⟨rfl, rfl⟩
      go_wp2_with fail
      refine (bytes_nil _ _).mono ?_
      rintro e w' ⟨rfl, rfl⟩
      go_wp2_with fail
      refine (left_nil _).mono ?_
      rintro e w' ⟨rfl, rfl⟩
      go_wp2_with fail
      refine (bad_nil _).mono ?_
      rintro e w' ⟨rfl, rfl⟩
      go_wp2_with fail
      go_ret
      exact ⟨rfl, o.bel⟩
    obtain ⟨e0, e1⟩ := rdops_at ops k hkl
    rcases hro with hro | ⟨b, off, rfl, hbw, hbl, hc⟩
    · rw [hro] at e0; simp at e0
    have c0 : w.cell? ⟨b, off + k * 2, none⟩ = some (.int .i64 ops[k].K) := by rw [Nat.mul_comm]; exact hc _ _ e0
    have c1 : w.cell? ⟨b, off + k * 2 + 1, none⟩ = some (.int .i64 ops[k].N) := by rw [Nat.mul_comm, Nat.add_assoc]; exact hc _ _ e1
    have d0 := (o.bel.cell (p := ⟨b, off + k * 2, none⟩) hbw).trans c0
    have d1 := (o.bel.cell (p := ⟨b, off + k * 2 + 1, none⟩) hbw).trans c1
    clear e0 e1 hc c0 c1
    generalize ops[k].K = rK at d0
    generalize ops[k].N = rN at d1
    have i0 : (0 : Int) ≤ (k : Int) := by omega
    have i1 : (k : Int) < (ops.length : Int) := by omega
    have hba : bs.length ≤ 140737488355328 := by omega
    by_cases hK : rK = 1
    case pos =>
      subst hK
      cases hok : numOk rN bs bad
      case false =>
        go_wp2_with fail
        go_region_held3 (fun w' => w'.cell? ⟨b, off + k * 2 + 1, none⟩ = some (.int .i64 rN)) (first | go_keep | (exact hk2) | (exact hk1))
          (first | (go_at_call 37; refine (num_no (W := wr.drew) o.drew.r rN hok).mono ?_; rintro e w1 ⟨rfl, rd1, ho1⟩; have x1 := o.drew.x1 ho1; have hk1 := (ho1.cell (p := ⟨b, off + k * 2 + 1, none⟩) (show b < wr.heap.size by have := o.bel.size; omega) (fun e => by have := o.lr; simp at e; omega)).trans d1) |
            (go_at_call 38; refine (rnum_no x1 rN hok).mono ?_; rintro e w2 ⟨rfl, rd2, ho2⟩; have hk2 := (ho2.cell (p := ⟨b, off + k * 2 + 1, none⟩) (show b < w1.heap.size by have := o.bel.size; have : wr.heap.size ≤ w1.heap.size := ho1.size; omega) (fun e => by have := o.lx; simp at e; omega)).trans hk1))
        have o2 := o.drew.both rd1 ho1 rd2 ho2
        clear rd1 ho1 rd2 ho2 x1 hk1 hk2 d0 d1 o
        go_wp2_with fail
        obtain ⟨Ax, cx, hbx, -⟩ := o2.x.ex
        have hcx := hbx.cell 1
        simp at hcx
        clear hbx
        go_quiet ((first | (go_at_call 41; exact Calls.quiet_of_same ((left_any (o2.drewN _).r).mono fun _ _ h => ⟨h.1, h.2.symm⟩)) | (go_at_call 42; exact Calls.quiet_of_same ((rleft_any (o2.drewN _).x).mono fun _ _ h => ⟨h.1, h.2.symm⟩)) | (go_at_call 43; exact Calls.quiet_of_same ((bad_any (o2.drewN _).r).mono fun _ _ h => ⟨h.1, h.2.symm⟩))))
        go_wp2_with fail
        exact ⟨⟨k + 1, _, _, by omega, by simp, by first | omega | (simp; omega), o2.drewN _⟩, by simp [intOf]; omega⟩
      obtain ⟨hw1, hro2⟩ : (1 ≤ rN ∧ rN ≤ 4) ∧ rdOk rN bs bad = true := by
        simp only [numOk, Bool.and_eq_true, decide_eq_true_eq] at hok
        exact hok
      obtain ⟨rfl, m, rfl, hm⟩ := rdOk_form hro2
      obtain ⟨hm1, hm4⟩ := hw1
      have hm1 : 1 ≤ m := by omega
      have hm4 : m ≤ 4 := by omega
      clear hok hro2
      go_wp2_with fail
      go_region_held3 (fun w' => w'.cell? ⟨b, off + k * 2 + 1, none⟩ = some (.int .i64 (m : Nat))) (first | go_keep | (exact hk2) | (exact hk1))
        (first | (go_at_call 37; refine (num_ok (W := wr.drew) o.drew.r m hm1 hm4 hm hba).mono ?_; rintro e w1 ⟨rfl, rd1, ho1⟩; have x1 := o.drew.x1 ho1; have hk1 := (ho1.cell (p := ⟨b, off + k * 2 + 1, none⟩) (show b < wr.heap.size by have := o.bel.size; omega) (fun e => by have := o.lr; simp at e; omega)).trans d1) |
          (go_at_call 38; refine (rnum_ok x1 m hm1 hm4 hm hba).mono ?_; rintro e w2 ⟨rfl, rd2, ho2⟩; have hk2 := (ho2.cell (p := ⟨b, off + k * 2 + 1, none⟩) (show b < w1.heap.size by have := o.bel.size; have : wr.heap.size ≤ w1.heap.size := ho1.size; omega) (fun e => by have := o.lx; simp at e; omega)).trans hk1))
      have o2 := o.drew.both rd1 ho1 rd2 ho2
      clear rd1 ho1 rd2 ho2 x1 hk1 hk2 d0 d1 o
      go_wp2_with fail
      obtain ⟨Ax, cx, hbx, -⟩ := o2.x.ex
      have hcx := hbx.cell 1
      simp at hcx
      clear hbx
      go_quiet ((first | (go_at_call 41; exact Calls.quiet_of_same ((left_any (o2.drewN _).r).mono fun _ _ h => ⟨h.1, h.2.symm⟩)) | (go_at_call 42; exact Calls.quiet_of_same ((rleft_any (o2.drewN _).x).mono fun _ _ h => ⟨h.1, h.2.symm⟩)) | (go_at_call 43; exact Calls.quiet_of_same ((bad_any (o2.drewN _).r).mono fun _ _ h => ⟨h.1, h.2.symm⟩))))
      go_wp2_with fail
      exact ⟨⟨k + 1, _, _, by omega, by simp, by first | omega | (simp; omega), o2.drewN _⟩, by simp [intOf]; omega⟩
    have hKb : (rK == 1) = false := beq_eq_false_iff_ne.2 hK
    clear hK
    cases hok : rdOk rN bs bad
    case false =>
      go_wp2_with fail
      refine wp_region_held_drew (S := (fun w' => w'.cell? ⟨b, off + k * 2 + 1, none⟩ = some (.int .i64 rN))) (by kernel_rfl) d1 (fun hHeld => ?_)
      refine wpAnyH_take (i := 0) (v := ?_) (by first | (simp only [List.getElem?_toArray, List.getElem?_cons_zero]; done) | (simp only [List.getElem?_toArray, List.getElem?_cons_zero]; rfl)) (by kernel_rfl) (by kernel_rfl) (by kernel_rfl) (by exact fun _ _ _ h => h) (Or.inl ⟨by rfl, ?_⟩) (by assumption) ?_
      rotate_left
      · (intro w hSw; (try dsimp only at hSw); first | (go_simp; done) | (go_simp; with_reducible rfl))
      simp only [Act.put, List.setIfInBounds_toArray, List.set_cons_zero, List.set_cons_succ]
      refine wpAnyH_take (i := 1) (v := ?_) (by first | (simp only [List.getElem?_toArray, List.getElem?_cons_succ, List.getElem?_cons_zero]; done) | (simp only [List.getElem?_toArray, List.getElem?_cons_succ, List.getElem?_cons_zero]; rfl)) (by kernel_rfl) (by kernel_rfl) (by kernel_rfl) (by exact fun _ _ _ h => h) (Or.inl ⟨by rfl, ?_⟩) (by assumption) ?_
      rotate_left
      · (intro w hSw; (try dsimp only at hSw); first | (go_simp; done) | (go_simp; with_reducible rfl))
      simp only [Act.put, List.setIfInBounds_toArray, List.set_cons_zero, List.set_cons_succ]
      refine wpAnyH_take (i := 2) (v := ?_) (by first | (simp only [List.getElem?_toArray, List.getElem?_cons_succ, List.getElem?_cons_zero]; done) | (simp only [List.getElem?_toArray, List.getElem?_cons_succ, List.getElem?_cons_zero]; rfl)) (by kernel_rfl) (by kernel_rfl) (by kernel_rfl) (by exact fun _ _ _ h => h) (Or.inl ⟨by rfl, ?_⟩) (by assumption) ?_
      rotate_left
      · (intro w hSw; (try dsimp only at hSw); first | (go_simp; done) | (go_simp; with_reducible rfl))
      simp only [Act.put, List.setIfInBounds_toArray, List.set_cons_zero, List.set_cons_succ]
      refine wpAnyH_take (i := 3) (v := ?_) (by first | (simp only [List.getElem?_toArray, List.getElem?_cons_succ, List.getElem?_cons_zero]; done) | (simp only [List.getElem?_toArray, List.getElem?_cons_succ, List.getElem?_cons_zero]; rfl)) (by kernel_rfl) (by kernel_rfl) (by kernel_rfl) (by exact fun _ _ _ h => h) (Or.inl ⟨by rfl, ?_⟩) (by assumption) ?_
      rotate_left
      · (intro w hSw; (try dsimp only at hSw); first | (go_simp; done) | (go_simp; with_reducible rfl))
      simp only [Act.put, List.setIfInBounds_toArray, List.set_cons_zero, List.set_cons_succ]
      refine wpAnyH_take (i := 4) (v := ?_) (by first | (simp only [List.getElem?_toArray, List.getElem?_cons_succ, List.getElem?_cons_zero]; done) | (simp only [List.getElem?_toArray, List.getElem?_cons_succ, List.getElem?_cons_zero]; rfl)) (by kernel_rfl) (by kernel_rfl) (by kernel_rfl) (by exact fun _ _ _ h => h) (Or.inl ⟨by rfl, ?_⟩) (by assumption) ?_
      rotate_left
      · (intro w hSw; (try dsimp only at hSw); first | (go_simp; done) | (go_simp; with_reducible rfl))
      simp only [Act.put, List.setIfInBounds_toArray, List.set_cons_zero, List.set_cons_succ]
      refine wpAnyH_take (i := 5) (v := ?_) (by first | (simp only [List.getElem?_toArray, List.getElem?_cons_succ, List.getElem?_cons_zero]; done) | (simp only [List.getElem?_toArray, List.getElem?_cons_succ, List.getElem?_cons_zero]; rfl)) (by kernel_rfl) (by kernel_rfl) (by kernel_rfl) (by exact fun _ _ _ h => h) (Or.inl ⟨by rfl, ?_⟩) (by assumption) ?_
      rotate_left
      · (intro w hSw; (try dsimp only at hSw); first | (go_simp; done) | (go_simp; with_reducible rfl))
      simp only [Act.put, List.setIfInBounds_toArray, List.set_cons_zero, List.set_cons_succ]
      refine wpAnyH_take (i := 8) (v := ?_) (by first | (simp only [List.getElem?_toArray, List.getElem?_cons_succ, List.getElem?_cons_zero]; done) | (simp only [List.getElem?_toArray, List.getElem?_cons_succ, List.getElem?_cons_zero]; rfl)) (by kernel_rfl) (by kernel_rfl) (by kernel_rfl) (by exact fun _ _ _ h => h) (Or.inl ⟨by rfl, ?_⟩) (by assumption) ?_
      rotate_left
      · (intro w hSw; (try dsimp only at hSw); first | (go_simp; done) | (go_simp; with_reducible rfl))
      simp only [Act.put, List.setIfInBounds_toArray, List.set_cons_zero, List.set_cons_succ]
      refine wpAnyH_take (i := 9) (v := ?_) (by first | (simp only [List.getElem?_toArray, List.getElem?_cons_succ, List.getElem?_cons_zero]; done) | (simp only [List.getElem?_toArray, List.getElem?_cons_succ, List.getElem?_cons_zero]; rfl)) (by kernel_rfl) (by kernel_rfl) (by kernel_rfl) (by exact fun _ _ _ h => h) (Or.inl ⟨by rfl, ?_⟩) (by assumption) ?_
      rotate_left
      · (intro w hSw; (try dsimp only at hSw); first | (go_simp; done) | (go_simp; with_reducible rfl))
      simp only [Act.put, List.setIfInBounds_toArray, List.set_cons_zero, List.set_cons_succ]
      refine wpAnyH_take (i := 10) (v := ?_) (by first | (simp only [List.getElem?_toArray, List.getElem?_cons_succ, List.getElem?_cons_zero]; done) | (simp only [List.getElem?_toArray, List.getElem?_cons_succ, List.getElem?_cons_zero]; rfl)) (by kernel_rfl) (by kernel_rfl) (by kernel_rfl) (by exact fun _ _ _ h => h) (Or.inl ⟨by rfl, ?_⟩) (by assumption) ?_
      rotate_left
      · (intro w hSw; (try dsimp only at hSw); first | (go_simp; done) | (go_simp; with_reducible rfl))
      simp only [Act.put, List.setIfInBounds_toArray, List.set_cons_zero, List.set_cons_succ]
      refine wpAnyH_take (i := 11) (v := ?_) (by first | (simp only [List.getElem?_toArray, List.getElem?_cons_succ, List.getElem?_cons_zero]; done) | (simp only [List.getElem?_toArray, List.getElem?_cons_succ, List.getElem?_cons_zero]; rfl)) (by kernel_rfl) (by kernel_rfl) (by kernel_rfl) (by exact fun _ _ _ h => h) (Or.inl ⟨by rfl, ?_⟩) (by assumption) ?_
      rotate_left
      · (intro w hSw; (try dsimp only at hSw); first | (go_simp; done) | (go_simp; with_reducible rfl))
      simp only [Act.put, List.setIfInBounds_toArray, List.set_cons_zero, List.set_cons_succ]
      refine wpAnyH_take (i := 12) (v := ?_) (by first | (simp only [List.getElem?_toArray, List.getElem?_cons_succ, List.getElem?_cons_zero]; done) | (simp only [List.getElem?_toArray, List.getElem?_cons_succ, List.getElem?_cons_zero]; rfl)) (by kernel_rfl) (by kernel_rfl) (by kernel_rfl) (by exact fun _ _ _ h => h) (Or.inl ⟨by rfl, ?_⟩) (by assumption) ?_
      rotate_left
      · (intro w hSw; (try dsimp only at hSw); first | (go_simp; done) | (go_simp; with_reducible rfl))
      simp only [Act.put, List.setIfInBounds_toArray, List.set_cons_zero, List.set_cons_succ]
      refine wpAnyH_take (i := 13) (v := ?_) (by first | (simp only [List.getElem?_toArray, List.getElem?_cons_succ, List.getElem?_cons_zero]; done) | (simp only [List.getElem?_toArray, List.getElem?_cons_succ, List.getElem?_cons_zero]; rfl)) (by kernel_rfl) (by kernel_rfl) (by kernel_rfl) (by exact fun _ _ _ h => h) (Or.inl ⟨by rfl, ?_⟩) (by assumption) ?_
      rotate_left
      · (intro w hSw; (try dsimp only at hSw); first | (go_simp; done) | (go_simp; with_reducible rfl))
      simp only [Act.put, List.setIfInBounds_toArray, List.set_cons_zero, List.set_cons_succ]
      refine wpAnyH_ready (rs := [6]) (by kernel_rfl) (by simp) ?_
      refine AllReadyH.cons (by first | (simp only [List.getElem?_toArray, List.getElem?_cons_succ, List.getElem?_cons_zero]; done) | (simp only [List.getElem?_toArray, List.getElem?_cons_succ, List.getElem?_cons_zero]; rfl)) (fun K hK => ?_) AllReadyH.nil
      go_simp
      refine (bytes_no (W := wr.drew) o.drew.r rN hok).mono ?_; rintro e w1 ⟨rfl, rd1, ho1⟩; have x1 := o.drew.x1 ho1; have hk1 := (ho1.cell (p := ⟨b, off + k * 2 + 1, none⟩) (show b < wr.heap.size by have := o.bel.size; omega) (fun e => by have := o.lr; simp at e; omega)).trans d1; have s1 := (show (convert 22 9 (.slice none 0 0)).run Try.prog w1 = .ok (.string (str [])) w1 from run_convert_rd (P := Try.prog) 22 9 5 0 Try.underlying22 Try.underlying5 Try.underlying9 (l := []) (F := fun _ => False) Reads.nil)
      go_wp2_with fail
      refine hK.out _ _ (hk1) (fun hHeld => ?_)
      clear hK K
      try simp only [Act.put, List.setIfInBounds_toArray, List.set_cons_zero, List.set_cons_succ]
      refine wpAnyH_strongR (S' := (fun w' => w'.cell? ⟨b, off + k * 2 + 1, none⟩ = some (.int .i64 rN) ∧ (convert 22 9 (.slice none 0 0)).run Try.prog w' = .ok (.string (str [])) w')) (fun w h => h.1) _ _ _ _ ?_
      have hHeld2 : (fun w' => w'.cell? ⟨b, off + k * 2 + 1, none⟩ = some (.int .i64 rN) ∧ (convert 22 9 (.slice none 0 0)).run Try.prog w' = .ok (.string (str [])) w') w1 := ⟨hk1, s1⟩
      refine wpAnyH_take (i := 7) (v := ?_) (by first | (simp only [List.getElem?_toArray, List.getElem?_cons_succ, List.getElem?_cons_zero]; done) | (simp only [List.getElem?_toArray, List.getElem?_cons_succ, List.getElem?_cons_zero]; rfl)) (by kernel_rfl) (by kernel_rfl) (by kernel_rfl) (by exact fun _ _ _ h => h) (Or.inl ⟨by rfl, ?_⟩) (by assumption) ?_
      rotate_left
      · (intro w hSw; (try dsimp only at hSw); first | (go_simp; done) | (go_simp; with_reducible rfl))
      simp only [Act.put, List.setIfInBounds_toArray, List.set_cons_zero, List.set_cons_succ]
      refine wpAnyH_ready (rs := [14]) (by kernel_rfl) (by simp) ?_
      refine AllReadyH.cons (by first | (simp only [List.getElem?_toArray, List.getElem?_cons_succ, List.getElem?_cons_zero]; done) | (simp only [List.getElem?_toArray, List.getElem?_cons_succ, List.getElem?_cons_zero]; rfl)) (fun K hK => ?_) AllReadyH.nil
      go_simp
      refine (rbytes_no x1 rN hok).mono ?_; rintro e w2 ⟨rfl, rd2, ho2⟩; have hk2 := (ho2.cell (p := ⟨b, off + k * 2 + 1, none⟩) (show b < w1.heap.size by have := o.bel.size; have : wr.heap.size ≤ w1.heap.size := ho1.size; omega) (fun e => by have := o.lx; simp at e; omega)).trans hk1; have s2 := (show (convert 22 9 (.slice none 0 0)).run Try.prog w2 = .ok (.string (str [])) w2 from run_convert_rd (P := Try.prog) 22 9 5 0 Try.underlying22 Try.underlying5 Try.underlying9 (l := []) (F := fun _ => False) Reads.nil); have s3 := s2
      go_wp2_with fail
      refine hK.out _ _ (⟨hk2, s3⟩) (fun hHeld => ?_)
      clear hK K
      try simp only [Act.put, List.setIfInBounds_toArray, List.set_cons_zero, List.set_cons_succ]
      refine wpAnyH_strongR (S' := (fun w' => (w'.cell? ⟨b, off + k * 2 + 1, none⟩ = some (.int .i64 rN) ∧ (convert 22 9 (.slice none 0 0)).run Try.prog w' = .ok (.string (str [])) w') ∧ (convert 22 9 (.slice none 0 0)).run Try.prog w' = .ok (.string (str [])) w')) (fun w h => h.1) _ _ _ _ ?_
      have hHeld3 : (fun w' => (w'.cell? ⟨b, off + k * 2 + 1, none⟩ = some (.int .i64 rN) ∧ (convert 22 9 (.slice none 0 0)).run Try.prog w' = .ok (.string (str [])) w') ∧ (convert 22 9 (.slice none 0 0)).run Try.prog w' = .ok (.string (str [])) w') w2 := ⟨⟨hk2, s3⟩, s2⟩
      refine wpAnyH_take (i := 15) (v := ?_) (by first | (simp only [List.getElem?_toArray, List.getElem?_cons_succ, List.getElem?_cons_zero]; done) | (simp only [List.getElem?_toArray, List.getElem?_cons_succ, List.getElem?_cons_zero]; rfl)) (by kernel_rfl) (by kernel_rfl) (by kernel_rfl) (by exact fun _ _ _ h => h) (Or.inl ⟨by rfl, ?_⟩) (by assumption) ?_
      rotate_left
      · (intro w hSw; (try dsimp only at hSw); first | (go_simp; done) | (go_simp; with_reducible rfl))
      simp only [Act.put, List.setIfInBounds_toArray, List.set_cons_zero, List.set_cons_succ]
      refine wpAnyH_take (i := 16) (v := ?_) (by first | (simp only [List.getElem?_toArray, List.getElem?_cons_succ, List.getElem?_cons_zero]; done) | (simp only [List.getElem?_toArray, List.getElem?_cons_succ, List.getElem?_cons_zero]; rfl)) (by kernel_rfl) (by kernel_rfl) (by kernel_rfl) (by exact fun _ _ _ h => h) (Or.inl ⟨by rfl, ?_⟩) (by assumption) ?_
      rotate_left
      · (intro w hSw; (try dsimp only at hSw); first | (go_simp; done) | (go_simp; with_reducible rfl))
      simp only [Act.put, List.setIfInBounds_toArray, List.set_cons_zero, List.set_cons_succ]
      refine wpAnyH_done (by kernel_rfl) ?_ _
      have o2 := o.drew.both rd1 ho1 rd2 ho2
      clear rd1 ho1 rd2 ho2 x1 hk1 hk2 d0 d1 o s1 s2 s3 hHeld hHeld2 hHeld3
      go_wp2_with fail
      obtain ⟨Ax, cx, hbx, -⟩ := o2.x.ex
      have hcx := hbx.cell 1
      simp at hcx
      clear hbx
      go_quiet ((first | (go_at_call 41; exact Calls.quiet_of_same ((left_any (o2.drewN _).r).mono fun _ _ h => ⟨h.1, h.2.symm⟩)) | (go_at_call 42; exact Calls.quiet_of_same ((rleft_any (o2.drewN _).x).mono fun _ _ h => ⟨h.1, h.2.symm⟩)) | (go_at_call 43; exact Calls.quiet_of_same ((bad_any (o2.drewN _).r).mono fun _ _ h => ⟨h.1, h.2.symm⟩))))
      go_wp2_with fail
      exact ⟨⟨k + 1, _, _, by omega, by simp, by first | omega | (simp; omega), o2.drewN _⟩, by simp [intOf]; omega⟩
    obtain ⟨rfl, m, rfl, hm⟩ := rdOk_form hok
    clear hok
    go_wp2_with fail
    refine wp_region_held_drew (S := (fun w' => w'.cell? ⟨b, off + k * 2 + 1, none⟩ = some (.int .i64 (m : Nat)))) (by kernel_rfl) d1 (fun hHeld => ?_)
    refine wpAnyH_take (i := 0) (v := ?_) (by first | (simp only [List.getElem?_toArray, List.getElem?_cons_zero]; done) | (simp only [List.getElem?_toArray, List.getElem?_cons_zero]; rfl)) (by kernel_rfl) (by kernel_rfl) (by kernel_rfl) (by exact fun _ _ _ h => h) (Or.inl ⟨by rfl, ?_⟩) (by assumption) ?_
    rotate_left
    · (intro w hSw; (try dsimp only at hSw); first | (go_simp; done) | (go_simp; with_reducible rfl))
    simp only [Act.put, List.setIfInBounds_toArray, List.set_cons_zero, List.set_cons_succ]
    refine wpAnyH_take (i := 1) (v := ?_) (by first | (simp only [List.getElem?_toArray, List.getElem?_cons_succ, List.getElem?_cons_zero]; done) | (simp only [List.getElem?_toArray, List.getElem?_cons_succ, List.getElem?_cons_zero]; rfl)) (by kernel_rfl) (by kernel_rfl) (by kernel_rfl) (by exact fun _ _ _ h => h) (Or.inl ⟨by rfl, ?_⟩) (by assumption) ?_
    rotate_left
    · (intro w hSw; (try dsimp only at hSw); first | (go_simp; done) | (go_simp; with_reducible rfl))
    simp only [Act.put, List.setIfInBounds_toArray, List.set_cons_zero, List.set_cons_succ]
    refine wpAnyH_take (i := 2) (v := ?_) (by first | (simp only [List.getElem?_toArray, List.getElem?_cons_succ, List.getElem?_cons_zero]; done) | (simp only [List.getElem?_toArray, List.getElem?_cons_succ, List.getElem?_cons_zero]; rfl)) (by kernel_rfl) (by kernel_rfl) (by kernel_rfl) (by exact fun _ _ _ h => h) (Or.inl ⟨by rfl, ?_⟩) (by assumption) ?_
    rotate_left
    · (intro w hSw; (try dsimp only at hSw); first | (go_simp; done) | (go_simp; with_reducible rfl))
    simp only [Act.put, List.setIfInBounds_toArray, List.set_cons_zero, List.set_cons_succ]
    refine wpAnyH_take (i := 3) (v := ?_) (by first | (simp only [List.getElem?_toArray, List.getElem?_cons_succ, List.getElem?_cons_zero]; done) | (simp only [List.getElem?_toArray, List.getElem?_cons_succ, List.getElem?_cons_zero]; rfl)) (by kernel_rfl) (by kernel_rfl) (by kernel_rfl) (by exact fun _ _ _ h => h) (Or.inl ⟨by rfl, ?_⟩) (by assumption) ?_
    rotate_left
    · (intro w hSw; (try dsimp only at hSw); first | (go_simp; done) | (go_simp; with_reducible rfl))
    simp only [Act.put, List.setIfInBounds_toArray, List.set_cons_zero, List.set_cons_succ]
    refine wpAnyH_take (i := 4) (v := ?_) (by first | (simp only [List.getElem?_toArray, List.getElem?_cons_succ, List.getElem?_cons_zero]; done) | (simp only [List.getElem?_toArray, List.getElem?_cons_succ, List.getElem?_cons_zero]; rfl)) (by kernel_rfl) (by kernel_rfl) (by kernel_rfl) (by exact fun _ _ _ h => h) (Or.inl ⟨by rfl, ?_⟩) (by assumption) ?_
    rotate_left
    · (intro w hSw; (try dsimp only at hSw); first | (go_simp; done) | (go_simp; with_reducible rfl))
    simp only [Act.put, List.setIfInBounds_toArray, List.set_cons_zero, List.set_cons_succ]
    refine wpAnyH_take (i := 5) (v := ?_) (by first | (simp only [List.getElem?_toArray, List.getElem?_cons_succ, List.getElem?_cons_zero]; done) | (simp only [List.getElem?_toArray, List.getElem?_cons_succ, List.getElem?_cons_zero]; rfl)) (by kernel_rfl) (by kernel_rfl) (by kernel_rfl) (by exact fun _ _ _ h => h) (Or.inl ⟨by rfl, ?_⟩) (by assumption) ?_
    rotate_left
    · (intro w hSw; (try dsimp only at hSw); first | (go_simp; done) | (go_simp; with_reducible rfl))
    simp only [Act.put, List.setIfInBounds_toArray, List.set_cons_zero, List.set_cons_succ]
    refine wpAnyH_take (i := 8) (v := ?_) (by first | (simp only [List.getElem?_toArray, List.getElem?_cons_succ, List.getElem?_cons_zero]; done) | (simp only [List.getElem?_toArray, List.getElem?_cons_succ, List.getElem?_cons_zero]; rfl)) (by kernel_rfl) (by kernel_rfl) (by kernel_rfl) (by exact fun _ _ _ h => h) (Or.inl ⟨by rfl, ?_⟩) (by assumption) ?_
    rotate_left
    · (intro w hSw; (try dsimp only at hSw); first | (go_simp; done) | (go_simp; with_reducible rfl))
    simp only [Act.put, List.setIfInBounds_toArray, List.set_cons_zero, List.set_cons_succ]
    refine wpAnyH_take (i := 9) (v := ?_) (by first | (simp only [List.getElem?_toArray, List.getElem?_cons_succ, List.getElem?_cons_zero]; done) | (simp only [List.getElem?_toArray, List.getElem?_cons_succ, List.getElem?_cons_zero]; rfl)) (by kernel_rfl) (by kernel_rfl) (by kernel_rfl) (by exact fun _ _ _ h => h) (Or.inl ⟨by rfl, ?_⟩) (by assumption) ?_
    rotate_left
    · (intro w hSw; (try dsimp only at hSw); first | (go_simp; done) | (go_simp; with_reducible rfl))
    simp only [Act.put, List.setIfInBounds_toArray, List.set_cons_zero, List.set_cons_succ]
    refine wpAnyH_take (i := 10) (v := ?_) (by first | (simp only [List.getElem?_toArray, List.getElem?_cons_succ, List.getElem?_cons_zero]; done) | (simp only [List.getElem?_toArray, List.getElem?_cons_succ, List.getElem?_cons_zero]; rfl)) (by kernel_rfl) (by kernel_rfl) (by kernel_rfl) (by exact fun _ _ _ h => h) (Or.inl ⟨by rfl, ?_⟩) (by assumption) ?_
    rotate_left
    · (intro w hSw; (try dsimp only at hSw); first | (go_simp; done) | (go_simp; with_reducible rfl))
    simp only [Act.put, List.setIfInBounds_toArray, List.set_cons_zero, List.set_cons_succ]
    refine wpAnyH_take (i := 11) (v := ?_) (by first | (simp only [List.getElem?_toArray, List.getElem?_cons_succ, List.getElem?_cons_zero]; done) | (simp only [List.getElem?_toArray, List.getElem?_cons_succ, List.getElem?_cons_zero]; rfl)) (by kernel_rfl) (by kernel_rfl) (by kernel_rfl) (by exact fun _ _ _ h => h) (Or.inl ⟨by rfl, ?_⟩) (by assumption) ?_
    rotate_left
    · (intro w hSw; (try dsimp only at hSw); first | (go_simp; done) | (go_simp; with_reducible rfl))
    simp only [Act.put, List.setIfInBounds_toArray, List.set_cons_zero, List.set_cons_succ]
    refine wpAnyH_take (i := 12) (v := ?_) (by first | (simp only [List.getElem?_toArray, List.getElem?_cons_succ, List.getElem?_cons_zero]; done) | (simp only [List.getElem?_toArray, List.getElem?_cons_succ, List.getElem?_cons_zero]; rfl)) (by kernel_rfl) (by kernel_rfl) (by kernel_rfl) (by exact fun _ _ _ h => h) (Or.inl ⟨by rfl, ?_⟩) (by assumption) ?_
    rotate_left
    · (intro w hSw; (try dsimp only at hSw); first | (go_simp; done) | (go_simp; with_reducible rfl))
    simp only [Act.put, List.setIfInBounds_toArray, List.set_cons_zero, List.set_cons_succ]
    refine wpAnyH_take (i := 13) (v := ?_) (by first | (simp only [List.getElem?_toArray, List.getElem?_cons_succ, List.getElem?_cons_zero]; done) | (simp only [List.getElem?_toArray, List.getElem?_cons_succ, List.getElem?_cons_zero]; rfl)) (by kernel_rfl) (by kernel_rfl) (by kernel_rfl) (by exact fun _ _ _ h => h) (Or.inl ⟨by rfl, ?_⟩) (by assumption) ?_
    rotate_left
    · (intro w hSw; (try dsimp only at hSw); first | (go_simp; done) | (go_simp; with_reducible rfl))
    simp only [Act.put, List.setIfInBounds_toArray, List.set_cons_zero, List.set_cons_succ]
    refine wpAnyH_ready (rs := [6]) (by kernel_rfl) (by simp) ?_
    refine AllReadyH.cons (by first | (simp only [List.getElem?_toArray, List.getElem?_cons_succ, List.getElem?_cons_zero]; done) | (simp only [List.getElem?_toArray, List.getElem?_cons_succ, List.getElem?_cons_zero]; rfl)) (fun K hK => ?_) AllReadyH.nil
    go_simp
    refine (bytes_ok (W := wr.drew) o.drew.r m hm hba).mono ?_; rintro e w1 ⟨v1, rfl, own1, rd1, ho1⟩; have x1 := o.drew.x1 ho1; have hk1 := (ho1.cell (p := ⟨b, off + k * 2 + 1, none⟩) (show b < wr.heap.size by have := o.bel.size; omega) (fun e => by have := o.lr; simp at e; omega)).trans d1; obtain ⟨B1, b1, hv1, _, q1⟩ := own_rd own1 (show (bs.take m).length = m by simp; omega); subst hv1; have q1 := q1.mono (G := fun k => wr.heap.size ≤ k ∧ k < w1.heap.size) (fun k hk h => ⟨h, hk⟩); have s1 := run_convert_rd (P := Try.prog) 22 9 5 b1 Try.underlying22 Try.underlying5 Try.underlying9 q1; rw [show (bs.take m).length = m by simp; omega] at s1
    go_wp2_with fail
    refine hK.out _ _ (hk1) (fun hHeld => ?_)
    clear hK K
    try simp only [Act.put, List.setIfInBounds_toArray, List.set_cons_zero, List.set_cons_succ]
    refine wpAnyH_strongR (S' := (fun w' => w'.cell? ⟨b, off + k * 2 + 1, none⟩ = some (.int .i64 (m : Nat)) ∧ (convert 22 9 (.slice B1 m b1)).run Try.prog w' = .ok (.string (str (bs.take m))) w')) (fun w h => h.1) _ _ _ _ ?_
    have hHeld2 : (fun w' => w'.cell? ⟨b, off + k * 2 + 1, none⟩ = some (.int .i64 (m : Nat)) ∧ (convert 22 9 (.slice B1 m b1)).run Try.prog w' = .ok (.string (str (bs.take m))) w') w1 := ⟨hk1, s1⟩
    refine wpAnyH_take (i := 7) (v := ?_) (by first | (simp only [List.getElem?_toArray, List.getElem?_cons_succ, List.getElem?_cons_zero]; done) | (simp only [List.getElem?_toArray, List.getElem?_cons_succ, List.getElem?_cons_zero]; rfl)) (by kernel_rfl) (by kernel_rfl) (by kernel_rfl) (by exact fun _ _ _ h => h) (Or.inl ⟨by rfl, ?_⟩) (by assumption) ?_
    rotate_left
    · (intro w hSw; (try dsimp only at hSw); first | (go_simp; done) | (go_simp; with_reducible rfl))
    simp only [Act.put, List.setIfInBounds_toArray, List.set_cons_zero, List.set_cons_succ]
    refine wpAnyH_ready (rs := [14]) (by kernel_rfl) (by simp) ?_
    refine AllReadyH.cons (by first | (simp only [List.getElem?_toArray, List.getElem?_cons_succ, List.getElem?_cons_zero]; done) | (simp only [List.getElem?_toArray, List.getElem?_cons_succ, List.getElem?_cons_zero]; rfl)) (fun K hK => ?_) AllReadyH.nil
    go_simp
    refine (rbytes_ok x1 m hm hba).mono ?_; rintro e w2 ⟨v2, rfl, own2, rd2, ho2⟩; have hk2 := (ho2.cell (p := ⟨b, off + k * 2 + 1, none⟩) (show b < w1.heap.size by have := o.bel.size; have : wr.heap.size ≤ w1.heap.size := ho1.size; omega) (fun e => by have := o.lx; simp at e; omega)).trans hk1; obtain ⟨B2, b2, hv2, _, q2⟩ := own_rd own2 (show (bs.take m).length = m by simp; omega); subst hv2; have s2 := run_convert_rd (P := Try.prog) 22 9 5 b2 Try.underlying22 Try.underlying5 Try.underlying9 q2; rw [show (bs.take m).length = m by simp; omega] at s2; have xlt : xb < wr.heap.size := o.x.blt; have s3 := run_convert_rd (P := Try.prog) 22 9 5 b1 Try.underlying22 Try.underlying5 Try.underlying9 (q1.only ho2 (fun j _ hj e => by have := hj.1; omega)); rw [show (bs.take m).length = m by simp; omega] at s3
    go_wp2_with fail
    refine hK.out _ _ (⟨hk2, s3⟩) (fun hHeld => ?_)
    clear hK K
    try simp only [Act.put, List.setIfInBounds_toArray, List.set_cons_zero, List.set_cons_succ]
    refine wpAnyH_strongR (S' := (fun w' => (w'.cell? ⟨b, off + k * 2 + 1, none⟩ = some (.int .i64 (m : Nat)) ∧ (convert 22 9 (.slice B1 m b1)).run Try.prog w' = .ok (.string (str (bs.take m))) w') ∧ (convert 22 9 (.slice B2 m b2)).run Try.prog w' = .ok (.string (str (bs.take m))) w')) (fun w h => h.1) _ _ _ _ ?_
    have hHeld3 : (fun w' => (w'.cell? ⟨b, off + k * 2 + 1, none⟩ = some (.int .i64 (m : Nat)) ∧ (convert 22 9 (.slice B1 m b1)).run Try.prog w' = .ok (.string (str (bs.take m))) w') ∧ (convert 22 9 (.slice B2 m b2)).run Try.prog w' = .ok (.string (str (bs.take m))) w') w2 := ⟨⟨hk2, s3⟩, s2⟩
    refine wpAnyH_take (i := 15) (v := ?_) (by first | (simp only [List.getElem?_toArray, List.getElem?_cons_succ, List.getElem?_cons_zero]; done) | (simp only [List.getElem?_toArray, List.getElem?_cons_succ, List.getElem?_cons_zero]; rfl)) (by kernel_rfl) (by kernel_rfl) (by kernel_rfl) (by exact fun _ _ _ h => h) (Or.inl ⟨by rfl, ?_⟩) (by assumption) ?_
    rotate_left
    · (intro w hSw; (try dsimp only at hSw); first | (go_simp; done) | (go_simp; with_reducible rfl))
    simp only [Act.put, List.setIfInBounds_toArray, List.set_cons_zero, List.set_cons_succ]
    refine wpAnyH_take (i := 16) (v := ?_) (by first | (simp only [List.getElem?_toArray, List.getElem?_cons_succ, List.getElem?_cons_zero]; done) | (simp only [List.getElem?_toArray, List.getElem?_cons_succ, List.getElem?_cons_zero]; rfl)) (by kernel_rfl) (by kernel_rfl) (by kernel_rfl) (by exact fun _ _ _ h => h) (Or.inl ⟨by rfl, ?_⟩) (by assumption) ?_
    rotate_left
    · (intro w hSw; (try dsimp only at hSw); first | (go_simp; done) | (go_simp; with_reducible rfl))
    simp only [Act.put, List.setIfInBounds_toArray, List.set_cons_zero, List.set_cons_succ]
    refine wpAnyH_done (by kernel_rfl) ?_ _
    have o2 := o.drew.both rd1 ho1 rd2 ho2
    clear rd1 ho1 rd2 ho2 x1 hk1 hk2 d0 d1 o s1 s2 s3 hHeld hHeld2 hHeld3
    go_wp2_with fail
    obtain ⟨Ax, cx, hbx, -⟩ := o2.x.ex
    have hcx := hbx.cell 1
    simp at hcx
    clear hbx
    go_quiet ((first | (go_at_call 41; exact Calls.quiet_of_same ((left_any (o2.drewN _).r).mono fun _ _ h => ⟨h.1, h.2.symm⟩)) | (go_at_call 42; exact Calls.quiet_of_same ((rleft_any (o2.drewN _).x).mono fun _ _ h => ⟨h.1, h.2.symm⟩)) | (go_at_call 43; exact Calls.quiet_of_same ((bad_any (o2.drewN _).r).mono fun _ _ h => ⟨h.1, h.2.symm⟩))))
    go_wp2_with fail
    exact ⟨⟨k + 1, _, _, by omega, by simp, by first | omega | (simp; omega), o2.drewN _⟩, by simp [intOf]; omega⟩
end Go.Proofs.Yteokhnkipandbaa
