/-
  A queue is the document's queue, call by call: the walk of 'QueueDoes'. No condition but that the arguments read as data.
-/
import Derived.Test.YtifiabhoeagblaaQueueLives
import Derived.Test.YtifiabhoeagblaaOpen
import Derived.Deep.DeepCutAuto
import Derived.Deep.CutBlock
import Derived.Deep.RegionWith
namespace Go.Proofs.Ytifiabhoeagblaa
open Go.ChangeShapes Go.WideShapes Go.ChangeAt Go.RowKit

/-- one call: its kind, its number, its bytes -/
structure OpR where
  K : Int
  N : Int
  A : Option Addr
  c : Nat
  b : List UInt8
def OpR.cells (r : OpR) : List Value := [.int .i64 r.K, .int .i64 r.N, .slice r.A r.b.length r.c]
theorem ops_at : ∀ (l : List OpR) (k : Nat) (h : k < l.length), (l.flatMap OpR.cells)[3 * k]? = some (.int .i64 l[k].K) ∧ (l.flatMap OpR.cells)[3 * k + 1]? = some (.int .i64 l[k].N) ∧ (l.flatMap OpR.cells)[3 * k + 2]? = some (.slice l[k].A l[k].b.length l[k].c)
  | [], k, h => by simp at h
  | r :: l, 0, h => by simp [OpR.cells]
  | r :: l, k + 1, h => by
    have := ops_at l k (by simpa using h)
    simp only [List.flatMap_cons, OpR.cells, Nat.mul_add, List.getElem_cons_succ]
    simpa [OpR.cells, show ∀ n, 3 * k + 3 + n = 3 * k + n + 3 by intro n; omega] using this

/-- the queue and the document's, apart, with the same bytes -/
structure QX (w W : World) (F G : Nat → Prop) (qb xb : Nat) (bs : List UInt8) (room : Nat) : Prop where
  ql : QL w W F qb bs room
  xs : XS W G xb bs room
  lo : ∀ k, G k → w.heap.size ≤ k
  ap : ∀ k, F k → ¬ G k
section
variable {w W W' : World} {F F' G G' : Nat → Prop} {qb xb : Nat} {bs bs' : List UInt8} {room : Nat}
theorem QX.below (h : QX w W F G qb xb bs room) (hb : Below W.heap.size W W') : QX w W' F G qb xb bs room := ⟨h.ql.below hb, h.xs.below hb, h.lo, h.ap⟩
/-- both have turned, the queue first -/
theorem QX.both {W1 W2 : World} (h : QX w W F G qb xb bs room) (hF : ∀ k, F' k → F k ∨ W.heap.size ≤ k) (hq : QS W1 F' qb bs' room) (ho : Only F W W1)
    (hG : ∀ k, G' k → G k ∨ W1.heap.size ≤ k) (hx : XS W2 G' xb bs' room) (hox : Only (· = xb) W1 W2) : QX w W2 F' G' qb xb bs' room := by
  have h1 := h.ql.put hF hq ho
  have hGx := h.xs.2.1
  have hd : ∀ k, F' k → ¬ k = xb := fun k hk e => by
    rcases hF k hk with hk | hk
    · exact h.ap k hk (e ▸ hGx)
    · have := h.xs.2.2.1 xb hGx; omega
  refine ⟨⟨h1.qs.only hox hd, h1.lo, h1.bel.trans (hox.below h1.bel.size (fun k e => e ▸ h.lo _ hGx))⟩, hx, ?_, ?_⟩
  · intro k hk
    rcases hG k hk with hk | hk
    · exact h.lo k hk
    · have := h1.bel.size; omega
  · intro k hf hg
    rcases hG k hg with hg | hg
    · rcases hF k hf with hf | hf
      · exact h.ap k hf hg
      · have := h.xs.2.2.1 k hg; omega
    · have := h1.qs.2 k hf; omega
end

theorem wpAnyH_strong {P : Program} {md : Region.Mode} {ops : Array Oper} {Q : Exit → Act → World → Prop} {S S' : World → Prop} (h : ∀ w, S' w → S w) : ∀ (fuel : Nat) (listed : Array Bool) (a : Act) (w : World), wpAnyH P md ops Q S' fuel listed a w → wpAnyH P md ops Q S fuel listed a w
  | 0, _, _, _, hh => hh
  | fuel + 1, _, _, _, hh => ⟨hh.1, fun i hi => wpOp_mono (fun a w hk => ⟨h w hk.1, wpAnyH_strong h fuel _ a w hk.2⟩) (hh.2 i hi)⟩

set_option maxRecDepth 10000 in
set_option maxHeartbeats 2000000 in
theorem queue_does_walk (n : Int) (A : Option Addr) (c : Nat) (l : List OpR) (F0 : Nat → Prop) (w : World) (hl : l.length ≤ 9223372036854775807) (hr : Reads w F0 A (l.flatMap OpR.cells)) (hrow : ∀ r ∈ l, Reads w F0 r.A (r.b.map vb)) (hlen : ∀ r ∈ l, r.b.length ≤ 9223372036854775807) :
    Calls Try.prog 6 #[.int .i64 n, .slice A l.length c] w fun e w' => e = .returned (.bool true) ∧ Below w.heap.size w w' := by
  by_cases hin : 0 ≤ n ∧ n ≤ 65536
  · obtain ⟨h1, h2⟩ := hin
    obtain ⟨room, rfl⟩ := Int.eq_ofNat_of_zero_le h1
    have hroom : room ≤ 65536 := by omega
    have hr' := hr.mono (G := (· < w.heap.size)) (fun k hk _ => hk)
    have hrow' := Lib.hid fun r hrl => (hrow r hrl).mono (G := (· < w.heap.size)) (fun k hk _ => hk)
    have hlen' := Lib.hid hlen
    clear hr hrow hlen h1 h2
    go_enter Try.func6, Try.ntmps6
    go_wp2_with fail
    refine (q_new_ok room _ (by omega)).mono ?_
    rintro e W ⟨rfl, hq, hb⟩
    have g0 : QL w W (· = w.heap.size) w.heap.size [] room := ⟨hq, fun k hk => by omega, hb⟩
    clear hq hb
    go_wp2_with fail
    refine (x_new_ok room _ (by omega)).mono ?_
    rintro e W0 ⟨rfl, hx, hb⟩
    have o0 : QX w W0 (· = w.heap.size) (· = W.heap.size) w.heap.size W.heap.size [] room := ⟨g0.below hb, hx, fun k hk => by have := g0.bel.size; omega, fun k hk hf => by have := g0.qs.2 k hk; omega⟩
    clear g0 hx hb
    generalize W.heap.size = xb at o0 ⊢
    go_wp2_with fail
    refine (queue_lives _).mono ?_
    rintro e W1 ⟨rfl, hb1⟩
    have o1 := o0.below hb1
    clear o0 hb1
    go_wp2_with fail
    go_loopw [8, 9] (fun i n wr => ∃ (k : Nat) (F G : Nat → Prop) (bs : List UInt8), k ≤ l.length ∧ i = .int .i64 k ∧ QX w wr F G w.heap.size xb bs room) (fun i _ _ => l.length - (intOf i).toNat)
    case atStart => exact ⟨0, _, _, [], by omega, rfl, o1⟩
    case round =>
      obtain ⟨k, F, G, bs, hk, rfl, o⟩ := hrel
      clear o1
      by_cases hkl : k < l.length ∧ k < 200
      · obtain ⟨hkl, hk200⟩ := hkl
        obtain ⟨e0, e1, e2⟩ := ops_at l k hkl
        have hb0 := hr'.below o.ql.bel (fun _ _ h => h)
        rcases hr' with hr' | ⟨b, off, rfl, hbw, hbl, hc⟩
        · rw [hr'] at e0; simp at e0
        have c0 : w.cell? ⟨b, off + k * 3, none⟩ = some (.int .i64 l[k].K) := by rw [Nat.mul_comm]; exact hc _ _ e0
        have c1 : w.cell? ⟨b, off + k * 3 + 1, none⟩ = some (.int .i64 l[k].N) := by rw [Nat.mul_comm k, Nat.add_assoc]; exact hc _ _ e1
        have c2 : w.cell? ⟨b, off + k * 3 + 2, none⟩ = some (.slice l[k].A l[k].b.length l[k].c) := by rw [Nat.mul_comm k, Nat.add_assoc]; exact hc _ _ e2
        have hrb := (hrow'.out l[k] (List.getElem_mem hkl))
        have hlb := hlen'.out l[k] (List.getElem_mem hkl)
        generalize l[k] = r at c0 c1 c2 hrb hlb
        obtain ⟨rK, rN, rA, rc, rb⟩ := r
        simp only at c0 c1 c2 hrb hlb
        clear e0 e1 e2 hb0 hc
        have d0 := (o.ql.bel.cell (p := ⟨b, off + k * 3, none⟩) hbw).trans c0
        have d1 := (o.ql.bel.cell (p := ⟨b, off + k * 3 + 1, none⟩) hbw).trans c1
        have d2 := (o.ql.bel.cell (p := ⟨b, off + k * 3 + 2, none⟩) hbw).trans c2
        clear c0 c1 c2
        have i0 : (k : Int) < (l.length : Int) := by omega
        have i1 : (k : Int) < 200 := by omega
        by_cases hbig : (70000 : Int) < rb.length
        · go_wp2_with fail
          exact ⟨⟨k + 1, F, G, bs, by omega, by simp, o⟩, by simp [intOf]; omega⟩
        · have hbig' : ¬ (70000 : Int) < rb.length := hbig
          go_upto_block 2 with fail
          go_cut [9] (fun v9 wx => ∃ (F G : Nat → Prop) (bz : List UInt8), QX w wx F G w.heap.size xb bz room)
          case first =>
            by_cases hK1 : rK = 1
            · subst hK1
              have q1 := hrb.below o.ql.bel (fun _ _ h => h)
              go_wp2_with fail
              go_region_held3 (fun w' => w'.cell? ⟨b, off + k * 3 + 2, none⟩ = some (.slice rA rb.length rc)) (first | go_keep | (exact hk2) | (exact hk1))
                (first | (go_at_call 22; refine (q_put (w := wr.drew) (o.ql.below (by exact ⟨rfl, rfl, rfl, Nat.le_refl _, fun _ _ => rfl⟩)).qs (· < w.heap.size) rA rc rb (by exact q1) (fun k hk hf => by have := o.ql.lo k hf; omega)).mono ?_; rintro e w1 ⟨rfl, F1, hF1, hq1, ho0⟩; have ho1 := ho0.of_drew; have q2 := q1.only ho1 (fun j _ hj hf => by have := o.ql.lo j hf; omega); have x1 := o.xs.only ho1 (fun k hg hf => o.ap k hf hg); have hk1 := (ho1.cell (p := ⟨b, off + k * 3 + 2, none⟩) (show b < wr.heap.size by have := o.ql.bel.size; omega) (fun hf => by have := o.ql.lo b hf; omega)).trans d2) |
                  (go_at_call 23; refine (x_put (by exact x1) (· < w.heap.size) rA rc rb (by exact q2) (by omega)).mono ?_; rintro e w2 ⟨rfl, G2, hG2, hx2, ho2⟩; have hk2 := (ho2.cell (p := ⟨b, off + k * 3 + 2, none⟩) (show b < w1.heap.size by have := o.ql.bel.size; have := ho1.size; omega) (fun hf => by have := o.lo xb o.xs.2.1; simp at hf; omega)).trans hk1))
              have o2 := o.both (bs' := putL room bs rb) (fun k hk => hF1 k hk) hq1 ho1 hG2 hx2 ho2
              clear o hF1 hq1 ho0 ho1 hG2 hx2 ho2 q1 q2 x1 hk1 hk2 d0 d1 d2
              have hpp : (putB room bs rb != putB room bs rb) = false := by simp
              go_wp2_with fail
              go_meet
              exact ⟨_, _, _, o2⟩
            · by_cases hK2 : rK = 2
              · subst hK2
                have HT := Lib.hid (show (bs.take (takeN rN bs.length)).length = takeN rN bs.length by rw [List.length_take]; have := takeN_le rN bs.length; omega)
                have hcv : ∀ (W' : World) (v : Value) (m : Nat), W'.ownsRow m 5 1 v (takeN rN bs.length) ((bs.take (takeN rN bs.length)).map vb) → (convert 54 9 v).run Try.prog W' = .ok (.string (str (bs.take (takeN rN bs.length)))) W' := by
                  intro W' v m hv
                  obtain ⟨A', c', rfl, _, _, _, hr⟩ := own_reads hv
                  have := run_convert_rd (P := Try.prog) 54 9 5 c' Try.underlying54 Try.underlying5 Try.underlying9 hr
                  rw [HT.out] at this
                  exact this
                obtain ⟨bt, hbt⟩ : ∃ bt, bt = str (bs.take (takeN rN bs.length)) := ⟨_, rfl⟩
                rw [← hbt] at hcv
                have htt : (bt.toList == bt.toList) = true := by simp
                have hcvH := Lib.hid hcv
                clear hbt hcv
                go_wp2_with fail
                go_region_with (first | (go_at_call 24; refine (q_take (w := wr.drew) (o.ql.below (by exact ⟨rfl, rfl, rfl, Nat.le_refl _, fun _ _ => rfl⟩)).qs rN).mono ?_; rintro e w1 ⟨v1, rfl, hv1, hq1, ho0⟩; have ho1 := ho0.of_drew; have x1 := o.xs.only ho1 (fun k hg hf => o.ap k hf hg); have s1 := hcvH.out w1 v1 _ hv1; have hk1 := (ho1.cell (p := ⟨b, off + k * 3 + 1, none⟩) (show b < wr.heap.size by have := o.ql.bel.size; omega) (fun hf => by have := o.ql.lo b hf; omega)).trans d1) |
                    (go_at_call 25; refine (x_take (by exact x1) rN).mono ?_; rintro e w2 ⟨v2, rfl, hv2, G2, hG2, hx2, ho2⟩; have s2 := hcvH.out w2 v2 _ hv2; have s1' := hcvH.out w2 v1 _ (own_only hv1 ho2 (fun k hk hx => by have h1 := (hv1.lt k hk).1; have h2 := o.xs.2.2.1 xb o.xs.2.1; have h3 : wr.drew.heap.size = wr.heap.size := rfl; omega)); have hk2 := (ho2.cell (p := ⟨b, off + k * 3 + 1, none⟩) (show b < w1.heap.size by have := o.ql.bel.size; have := ho1.size; omega) (fun hf => by have := o.lo xb o.xs.2.1; simp at hf; omega)).trans hk1))
                all_goals (go_wp2_with fail; go_meet; exact ⟨_, _, _, o.both (bs' := bs.drop (takeN rN bs.length)) (fun k hk => .inl hk) hq1 ho1 hG2 hx2 ho2⟩)
              · by_cases hK3 : rK = 3
                · subst hK3
                  obtain ⟨XA, xc, hbx, _, _, _⟩ := o.xs.reads
                  have cx := hbx.cell 0
                  simp at cx
                  have fx := hbx.frozen 0
                  have hset := hbx.set_ 0 (.slice none 0 0)
                  simp at hset
                  have hoS : Only (· = xb) wr (wr.setCell ⟨xb, 0, none⟩ (.slice none 0 0)) := (Only.refl (· = xb) wr).setCell (p := ⟨xb, 0, none⟩) (fun _ => rfl) (.slice none 0 0)
                  have hqS := o.ql.qs.only hoS (fun k hf e => o.ap k hf (e ▸ o.xs.2.1))
                  have hxS : XS (wr.setCell ⟨xb, 0, none⟩ (.slice none 0 0)) G xb [] room := ⟨⟨none, 0, hset, own_nil _ _ _ _, fun k hk => (by cases hk)⟩, o.xs.2.1, fun k hk => by have := o.xs.2.2.1 k hk; simpa using this, by simp, hroom⟩
                  clear hbx hset
                  go_wp2_with fail
                  refine (q_clear hqS).mono ?_
                  rintro e w3 ⟨rfl, hq3, ho3⟩
                  have oc : QX w w3 F G w.heap.size xb [] room := ⟨⟨hq3, o.ql.lo, (o.ql.bel.trans (hoS.below o.ql.bel.size (fun k e => e ▸ o.lo _ o.xs.2.1))).trans (ho3.below (by simpa using o.ql.bel.size) o.ql.lo)⟩, hxS.only ho3 (fun k hg hf => o.ap k hf hg), o.lo, o.ap⟩
                  have hnn : ((bs.length : Int) != (bs.length : Int)) = false := by simp
                  clear hqS hxS hoS hq3 ho3 o cx fx d0 d1 d2
                  go_wp2_with fail
                  go_meet
                  exact ⟨_, _, _, oc⟩
                · have e1 : (rK == 1) = false := beq_eq_false_iff_ne.2 hK1
                  have e2 : (rK == 2) = false := beq_eq_false_iff_ne.2 hK2
                  have e3 : (rK == 3) = false := beq_eq_false_iff_ne.2 hK3
                  go_wp2_with fail
                  go_meet
                  exact ⟨_, _, _, o⟩
          case rest =>
            obtain ⟨F3, G3, bz, o2⟩ := hcut
            clear o d0 d1 d2 hrb hlb hbig hbig'
            have o3 := o2.below (W' := wc.drew) ⟨rfl, rfl, rfl, Nat.le_refl _, fun _ _ => rfl⟩
            clear o2
            obtain ⟨XA, xc, hbx, hxl, hxm, hrx⟩ := o3.xs.reads
            have cx := hbx.cell 0
            simp at cx
            have sx := run_convert_rd (P := Try.prog) 54 9 5 xc Try.underlying54 Try.underlying5 Try.underlying9 hrx
            have hz : IntKind.i64.wrap ((room : Int) - (bz.length : Int)) = (room : Int) - (bz.length : Int) := IntWalk.i64_in _ (by have := o3.ql.qs.le; omega)
            have hz3 : ((str bz).toList == (str bz).toList) = true := by rw [str_eq]; simp
            clear hbx hxl hxm
            go_upto_region 21 with fail
            go_cut [147] (fun v wx => v = .bool false ∧ ∃ (F G : Nat → Prop) (bz : List UInt8), QX w wx F G w.heap.size xb bz room)
            case first =>
              refine wp_region_held_drew (S := (fun w' => w'.cell? ⟨xb, 0, none⟩ = some (.slice XA bz.length xc) ∧ (convert 54 9 (.slice XA bz.length xc)).run Try.prog w' = .ok (.string (str bz)) w')) (by kernel_rfl) ⟨cx, sx⟩ (fun hHeld => ?_)
              refine wpAnyH_take (i := 0) (v := ?_) (by first | (simp only [List.getElem?_toArray, List.getElem?_cons_zero]; done) | (simp only [List.getElem?_toArray, List.getElem?_cons_zero]; rfl)) (by kernel_rfl) (by kernel_rfl) (by kernel_rfl) (by exact fun _ _ _ h => h) (Or.inl ⟨by rfl, ?_⟩) (by assumption) ?_
              rotate_left
              · (intro w hSw; (try dsimp only at hSw); first | (go_simp; done) | (go_simp; with_reducible rfl))
              simp only [Act.put, List.setIfInBounds_toArray, List.set_cons_zero, List.set_cons_succ]
              refine wpAnyH_take (i := 2) (v := ?_) (by first | (simp only [List.getElem?_toArray, List.getElem?_cons_succ, List.getElem?_cons_zero]; done) | (simp only [List.getElem?_toArray, List.getElem?_cons_succ, List.getElem?_cons_zero]; rfl)) (by kernel_rfl) (by kernel_rfl) (by kernel_rfl) (by exact fun _ _ _ h => h) (Or.inl ⟨by rfl, ?_⟩) (by assumption) ?_
              rotate_left
              · (intro w hSw; (try dsimp only at hSw); first | (go_simp; done) | (go_simp; with_reducible rfl))
              simp only [Act.put, List.setIfInBounds_toArray, List.set_cons_zero, List.set_cons_succ]
              refine wpAnyH_take (i := 3) (v := ?_) (by first | (simp only [List.getElem?_toArray, List.getElem?_cons_succ, List.getElem?_cons_zero]; done) | (simp only [List.getElem?_toArray, List.getElem?_cons_succ, List.getElem?_cons_zero]; rfl)) (by kernel_rfl) (by kernel_rfl) (by kernel_rfl) (by exact fun _ _ _ h => h) (Or.inl ⟨by rfl, ?_⟩) (by assumption) ?_
              rotate_left
              · (intro w hSw; (try dsimp only at hSw); first | (go_simp; done) | (go_simp; with_reducible rfl))
              simp only [Act.put, List.setIfInBounds_toArray, List.set_cons_zero, List.set_cons_succ]
              refine wpAnyH_take (i := 4) (v := ?_) (by first | (simp only [List.getElem?_toArray, List.getElem?_cons_succ, List.getElem?_cons_zero]; done) | (simp only [List.getElem?_toArray, List.getElem?_cons_succ, List.getElem?_cons_zero]; rfl)) (by kernel_rfl) (by kernel_rfl) (by kernel_rfl) (by exact fun _ _ _ h => h) (Or.inl ⟨by rfl, ?_⟩) (by assumption) ?_
              rotate_left
              · (intro w hSw; (try dsimp only at hSw); first | (go_simp; done) | (go_simp; with_reducible rfl))
              simp only [Act.put, List.setIfInBounds_toArray, List.set_cons_zero, List.set_cons_succ]
              refine wpAnyH_take (i := 5) (v := ?_) (by first | (simp only [List.getElem?_toArray, List.getElem?_cons_succ, List.getElem?_cons_zero]; done) | (simp only [List.getElem?_toArray, List.getElem?_cons_succ, List.getElem?_cons_zero]; rfl)) (by kernel_rfl) (by kernel_rfl) (by kernel_rfl) (by exact fun _ _ _ h => h) (Or.inl ⟨by rfl, ?_⟩) (by assumption) ?_
              rotate_left
              · (intro w hSw; (try dsimp only at hSw); first | (go_simp; done) | (go_simp; with_reducible rfl))
              simp only [Act.put, List.setIfInBounds_toArray, List.set_cons_zero, List.set_cons_succ]
              refine wpAnyH_take (i := 6) (v := ?_) (by first | (simp only [List.getElem?_toArray, List.getElem?_cons_succ, List.getElem?_cons_zero]; done) | (simp only [List.getElem?_toArray, List.getElem?_cons_succ, List.getElem?_cons_zero]; rfl)) (by kernel_rfl) (by kernel_rfl) (by kernel_rfl) (by exact fun _ _ _ h => h) (Or.inl ⟨by rfl, ?_⟩) (by assumption) ?_
              rotate_left
              · (intro w hSw; (try dsimp only at hSw); first | (go_simp; done) | (go_simp; with_reducible rfl))
              simp only [Act.put, List.setIfInBounds_toArray, List.set_cons_zero, List.set_cons_succ]
              refine wpAnyH_ready (rs := [1]) (by kernel_rfl) (by simp) ?_
              refine AllReadyH.cons (by first | (simp only [List.getElem?_toArray, List.getElem?_cons_succ, List.getElem?_cons_zero]; done) | (simp only [List.getElem?_toArray, List.getElem?_cons_succ, List.getElem?_cons_zero]; rfl)) (fun K hK => ?_) AllReadyH.nil
              go_simp
              refine (qs_len (by exact o3.ql.qs)).mono ?_; rintro e w3 ⟨rfl, rfl⟩
              go_wp2_with fail
              refine hK.out _ _ (⟨cx, sx⟩) (fun hHeld => ?_)
              clear hK K
              try simp only [Act.put, List.setIfInBounds_toArray, List.set_cons_zero, List.set_cons_succ]
              refine wpAnyH_take (i := 7) (v := ?_) (by first | (simp only [List.getElem?_toArray, List.getElem?_cons_succ, List.getElem?_cons_zero]; done) | (simp only [List.getElem?_toArray, List.getElem?_cons_succ, List.getElem?_cons_zero]; rfl)) (by kernel_rfl) (by kernel_rfl) (by kernel_rfl) (by exact fun _ _ _ h => h) (Or.inl ⟨by rfl, ?_⟩) (by assumption) ?_
              rotate_left
              · (intro w hSw; (try dsimp only at hSw); first | (go_simp; done) | (go_simp; with_reducible rfl))
              simp only [Act.put, List.setIfInBounds_toArray, List.set_cons_zero, List.set_cons_succ]
              refine wpAnyH_take (i := 8) (v := ?_) (by first | (simp only [List.getElem?_toArray, List.getElem?_cons_succ, List.getElem?_cons_zero]; done) | (simp only [List.getElem?_toArray, List.getElem?_cons_succ, List.getElem?_cons_zero]; rfl)) (by kernel_rfl) (by kernel_rfl) (by kernel_rfl) (by exact fun _ _ _ h => h) (Or.inl ⟨by rfl, ?_⟩) (by assumption) ?_
              rotate_left
              · (intro w hSw; (try dsimp only at hSw); first | (go_simp; done) | (go_simp; with_reducible rfl))
              simp only [Act.put, List.setIfInBounds_toArray, List.set_cons_zero, List.set_cons_succ]
              refine wpAnyH_take (i := 9) (v := ?_) (by first | (simp only [List.getElem?_toArray, List.getElem?_cons_succ, List.getElem?_cons_zero]; done) | (simp only [List.getElem?_toArray, List.getElem?_cons_succ, List.getElem?_cons_zero]; rfl)) (by kernel_rfl) (by kernel_rfl) (by kernel_rfl) (by exact fun _ _ _ h => h) (Or.inl ⟨by rfl, ?_⟩) (by assumption) ?_
              rotate_left
              · (intro w hSw; (try dsimp only at hSw); first | (go_simp; done) | (go_simp; with_reducible rfl))
              simp only [Act.put, List.setIfInBounds_toArray, List.set_cons_zero, List.set_cons_succ]
              refine wpAnyH_take (i := 11) (v := ?_) (by first | (simp only [List.getElem?_toArray, List.getElem?_cons_succ, List.getElem?_cons_zero]; done) | (simp only [List.getElem?_toArray, List.getElem?_cons_succ, List.getElem?_cons_zero]; rfl)) (by kernel_rfl) (by kernel_rfl) (by kernel_rfl) (by exact fun _ _ _ h => h) (Or.inl ⟨by rfl, ?_⟩) (by assumption) ?_
              rotate_left
              · (intro w hSw; (try dsimp only at hSw); first | (go_simp; done) | (go_simp; with_reducible rfl))
              simp only [Act.put, List.setIfInBounds_toArray, List.set_cons_zero, List.set_cons_succ]
              refine wpAnyH_take (i := 12) (v := ?_) (by first | (simp only [List.getElem?_toArray, List.getElem?_cons_succ, List.getElem?_cons_zero]; done) | (simp only [List.getElem?_toArray, List.getElem?_cons_succ, List.getElem?_cons_zero]; rfl)) (by kernel_rfl) (by kernel_rfl) (by kernel_rfl) (by exact fun _ _ _ h => h) (Or.inl ⟨by rfl, ?_⟩) (by assumption) ?_
              rotate_left
              · (intro w hSw; (try dsimp only at hSw); first | (go_simp; done) | (go_simp; with_reducible rfl))
              simp only [Act.put, List.setIfInBounds_toArray, List.set_cons_zero, List.set_cons_succ]
              refine wpAnyH_take (i := 13) (v := ?_) (by first | (simp only [List.getElem?_toArray, List.getElem?_cons_succ, List.getElem?_cons_zero]; done) | (simp only [List.getElem?_toArray, List.getElem?_cons_succ, List.getElem?_cons_zero]; rfl)) (by kernel_rfl) (by kernel_rfl) (by kernel_rfl) (by exact fun _ _ _ h => h) (Or.inl ⟨by rfl, ?_⟩) (by assumption) ?_
              rotate_left
              · (intro w hSw; (try dsimp only at hSw); first | (go_simp; done) | (go_simp; with_reducible rfl))
              simp only [Act.put, List.setIfInBounds_toArray, List.set_cons_zero, List.set_cons_succ]
              refine wpAnyH_take (i := 14) (v := ?_) (by first | (simp only [List.getElem?_toArray, List.getElem?_cons_succ, List.getElem?_cons_zero]; done) | (simp only [List.getElem?_toArray, List.getElem?_cons_succ, List.getElem?_cons_zero]; rfl)) (by kernel_rfl) (by kernel_rfl) (by kernel_rfl) (by exact fun _ _ _ h => h) (Or.inl ⟨by rfl, ?_⟩) (by assumption) ?_
              rotate_left
              · (intro w hSw; (try dsimp only at hSw); first | (go_simp; done) | (go_simp; with_reducible rfl))
              simp only [Act.put, List.setIfInBounds_toArray, List.set_cons_zero, List.set_cons_succ]
              refine wpAnyH_take (i := 15) (v := ?_) (by first | (simp only [List.getElem?_toArray, List.getElem?_cons_succ, List.getElem?_cons_zero]; done) | (simp only [List.getElem?_toArray, List.getElem?_cons_succ, List.getElem?_cons_zero]; rfl)) (by kernel_rfl) (by kernel_rfl) (by kernel_rfl) (by exact fun _ _ _ h => h) (Or.inl ⟨by rfl, ?_⟩) (by assumption) ?_
              rotate_left
              · (intro w hSw; (try dsimp only at hSw); first | (go_simp; done) | (go_simp; with_reducible rfl))
              simp only [Act.put, List.setIfInBounds_toArray, List.set_cons_zero, List.set_cons_succ]
              refine wpAnyH_take (i := 16) (v := ?_) (by first | (simp only [List.getElem?_toArray, List.getElem?_cons_succ, List.getElem?_cons_zero]; done) | (simp only [List.getElem?_toArray, List.getElem?_cons_succ, List.getElem?_cons_zero]; rfl)) (by kernel_rfl) (by kernel_rfl) (by kernel_rfl) (by exact fun _ _ _ h => h) (Or.inl ⟨by rfl, ?_⟩) (by assumption) ?_
              rotate_left
              · (intro w hSw; (try dsimp only at hSw); first | (go_simp; done) | (go_simp; with_reducible rfl))
              simp only [Act.put, List.setIfInBounds_toArray, List.set_cons_zero, List.set_cons_succ]
              refine wpAnyH_take (i := 17) (v := ?_) (by first | (simp only [List.getElem?_toArray, List.getElem?_cons_succ, List.getElem?_cons_zero]; done) | (simp only [List.getElem?_toArray, List.getElem?_cons_succ, List.getElem?_cons_zero]; rfl)) (by kernel_rfl) (by kernel_rfl) (by kernel_rfl) (by exact fun _ _ _ h => h) (Or.inl ⟨by rfl, ?_⟩) (by assumption) ?_
              rotate_left
              · (intro w hSw; (try dsimp only at hSw); first | (go_simp; done) | (go_simp; with_reducible rfl))
              simp only [Act.put, List.setIfInBounds_toArray, List.set_cons_zero, List.set_cons_succ]
              refine wpAnyH_ready (rs := [10]) (by kernel_rfl) (by simp) ?_
              refine AllReadyH.cons (by first | (simp only [List.getElem?_toArray, List.getElem?_cons_succ, List.getElem?_cons_zero]; done) | (simp only [List.getElem?_toArray, List.getElem?_cons_succ, List.getElem?_cons_zero]; rfl)) (fun K hK => ?_) AllReadyH.nil
              go_simp
              refine (qs_room (by exact o3.ql.qs)).mono ?_; rintro e w3 ⟨rfl, k3, rfl⟩; have o4 := o3.below (W' := wc.drewN (1 + k3)) ⟨rfl, rfl, rfl, Nat.le_refl _, fun _ _ => rfl⟩; have sx3 := run_convert_rd (P := Try.prog) 54 9 5 xc Try.underlying54 Try.underlying5 Try.underlying9 (show Reads (wc.drewN (1 + k3)) G3 XA (bz.map vb) from hrx)
              go_wp2_with fail
              refine hK.out _ _ (⟨cx, by first | exact sx3 | (rw [World.drewN_drewN] at *; exact sx3)⟩) (fun hHeld => ?_)
              clear hK K
              try simp only [Act.put, List.setIfInBounds_toArray, List.set_cons_zero, List.set_cons_succ]
              refine wpAnyH_take (i := 18) (v := ?_) (by first | (simp only [List.getElem?_toArray, List.getElem?_cons_succ, List.getElem?_cons_zero]; done) | (simp only [List.getElem?_toArray, List.getElem?_cons_succ, List.getElem?_cons_zero]; rfl)) (by kernel_rfl) (by kernel_rfl) (by kernel_rfl) (by exact fun _ _ _ h => h) (Or.inl ⟨by rfl, ?_⟩) (by assumption) ?_
              rotate_left
              · (intro w hSw; (try dsimp only at hSw); first | (go_simp; done) | (go_simp; with_reducible rfl))
              simp only [Act.put, List.setIfInBounds_toArray, List.set_cons_zero, List.set_cons_succ]
              refine wpAnyH_take (i := 19) (v := ?_) (by first | (simp only [List.getElem?_toArray, List.getElem?_cons_succ, List.getElem?_cons_zero]; done) | (simp only [List.getElem?_toArray, List.getElem?_cons_succ, List.getElem?_cons_zero]; rfl)) (by kernel_rfl) (by kernel_rfl) (by kernel_rfl) (by exact fun _ _ _ h => h) (Or.inl ⟨by rfl, ?_⟩) (by assumption) ?_
              rotate_left
              · (intro w hSw; (try dsimp only at hSw); first | (go_simp; done) | (go_simp; with_reducible rfl))
              simp only [Act.put, List.setIfInBounds_toArray, List.set_cons_zero, List.set_cons_succ]
              refine wpAnyH_take (i := 20) (v := ?_) (by first | (simp only [List.getElem?_toArray, List.getElem?_cons_succ, List.getElem?_cons_zero]; done) | (simp only [List.getElem?_toArray, List.getElem?_cons_succ, List.getElem?_cons_zero]; rfl)) (by kernel_rfl) (by kernel_rfl) (by kernel_rfl) (by exact fun _ _ _ h => h) (Or.inl ⟨by rfl, ?_⟩) (by assumption) ?_
              rotate_left
              · (intro w hSw; (try dsimp only at hSw); first | (go_simp; done) | (go_simp; with_reducible rfl))
              simp only [Act.put, List.setIfInBounds_toArray, List.set_cons_zero, List.set_cons_succ]
              refine wpAnyH_take (i := 21) (v := ?_) (by first | (simp only [List.getElem?_toArray, List.getElem?_cons_succ, List.getElem?_cons_zero]; done) | (simp only [List.getElem?_toArray, List.getElem?_cons_succ, List.getElem?_cons_zero]; rfl)) (by kernel_rfl) (by kernel_rfl) (by kernel_rfl) (by exact fun _ _ _ h => h) (Or.inl ⟨by rfl, ?_⟩) (by assumption) ?_
              rotate_left
              · (intro w hSw; (try dsimp only at hSw); first | (go_simp; done) | (go_simp; with_reducible rfl))
              simp only [Act.put, List.setIfInBounds_toArray, List.set_cons_zero, List.set_cons_succ]
              refine wpAnyH_take (i := 24) (v := ?_) (by first | (simp only [List.getElem?_toArray, List.getElem?_cons_succ, List.getElem?_cons_zero]; done) | (simp only [List.getElem?_toArray, List.getElem?_cons_succ, List.getElem?_cons_zero]; rfl)) (by kernel_rfl) (by kernel_rfl) (by kernel_rfl) (by exact fun _ _ _ h => h) (Or.inl ⟨by rfl, ?_⟩) (by assumption) ?_
              rotate_left
              · (intro w hSw; (try dsimp only at hSw); first | (go_simp; done) | (go_simp; with_reducible rfl))
              simp only [Act.put, List.setIfInBounds_toArray, List.set_cons_zero, List.set_cons_succ]
              refine wpAnyH_take (i := 25) (v := ?_) (by first | (simp only [List.getElem?_toArray, List.getElem?_cons_succ, List.getElem?_cons_zero]; done) | (simp only [List.getElem?_toArray, List.getElem?_cons_succ, List.getElem?_cons_zero]; rfl)) (by kernel_rfl) (by kernel_rfl) (by kernel_rfl) (by exact fun _ _ _ h => h) (Or.inl ⟨by rfl, ?_⟩) (by assumption) ?_
              rotate_left
              · (intro w hSw; (try dsimp only at hSw); first | (go_simp; done) | (go_simp; with_reducible rfl))
              simp only [Act.put, List.setIfInBounds_toArray, List.set_cons_zero, List.set_cons_succ]
              refine wpAnyH_take (i := 26) (v := ?_) (by first | (simp only [List.getElem?_toArray, List.getElem?_cons_succ, List.getElem?_cons_zero]; done) | (simp only [List.getElem?_toArray, List.getElem?_cons_succ, List.getElem?_cons_zero]; rfl)) (by kernel_rfl) (by kernel_rfl) (by kernel_rfl) (by exact fun _ _ _ h => h) (Or.inl ⟨by rfl, ?_⟩) (by assumption) ?_
              rotate_left
              · (intro w hSw; (try dsimp only at hSw); first | (go_simp; done) | (go_simp; with_reducible rfl))
              simp only [Act.put, List.setIfInBounds_toArray, List.set_cons_zero, List.set_cons_succ]
              refine wpAnyH_take (i := 27) (v := ?_) (by first | (simp only [List.getElem?_toArray, List.getElem?_cons_succ, List.getElem?_cons_zero]; done) | (simp only [List.getElem?_toArray, List.getElem?_cons_succ, List.getElem?_cons_zero]; rfl)) (by kernel_rfl) (by kernel_rfl) (by kernel_rfl) (by exact fun _ _ _ h => h) (Or.inl ⟨by rfl, ?_⟩) (by assumption) ?_
              rotate_left
              · (intro w hSw; (try dsimp only at hSw); first | (go_simp; done) | (go_simp; with_reducible rfl))
              simp only [Act.put, List.setIfInBounds_toArray, List.set_cons_zero, List.set_cons_succ]
              refine wpAnyH_take (i := 28) (v := ?_) (by first | (simp only [List.getElem?_toArray, List.getElem?_cons_succ, List.getElem?_cons_zero]; done) | (simp only [List.getElem?_toArray, List.getElem?_cons_succ, List.getElem?_cons_zero]; rfl)) (by kernel_rfl) (by kernel_rfl) (by kernel_rfl) (by exact fun _ _ _ h => h) (Or.inl ⟨by rfl, ?_⟩) (by assumption) ?_
              rotate_left
              · (intro w hSw; (try dsimp only at hSw); first | (go_simp; done) | (go_simp; with_reducible rfl))
              simp only [Act.put, List.setIfInBounds_toArray, List.set_cons_zero, List.set_cons_succ]
              refine wpAnyH_ready (rs := [22]) (by kernel_rfl) (by simp) ?_
              refine AllReadyH.cons (by first | (simp only [List.getElem?_toArray, List.getElem?_cons_succ, List.getElem?_cons_zero]; done) | (simp only [List.getElem?_toArray, List.getElem?_cons_succ, List.getElem?_cons_zero]; rfl)) (fun K hK => ?_) AllReadyH.nil
              go_simp
              refine (qs_all (by exact o4.ql.qs)).mono ?_; rintro e w4 ⟨v4, rfl, hv4, hb4⟩; have o5 := o4.below hb4; obtain ⟨A4, c4, rfl⟩ := own_len hv4; have s4 := (OV.make hv4 (F := fun _ => False) (fun k hk => hk.elim)).str (P := Try.prog) 54 9 Try.underlying54 Try.underlying5 Try.underlying9; have hrx4 := (show Reads (wc.drewN (1 + k3)) G3 XA (bz.map vb) from hrx).below (hb4.mono (by exact Nat.le_refl _)) (fun j hj _ => hj); have sx4 := run_convert_rd (P := Try.prog) 54 9 5 xc Try.underlying54 Try.underlying5 Try.underlying9 hrx4; have cx4 := (hb4.cell (p := ⟨xb, 0, none⟩) (o4.xs.2.2.1 xb o4.xs.2.1)).trans cx
              go_wp2_with fail
              refine hK.out _ _ (⟨cx4, sx4⟩) (fun hHeld => ?_)
              clear hK K
              try simp only [Act.put, List.setIfInBounds_toArray, List.set_cons_zero, List.set_cons_succ]
              refine wpAnyH_strong (S' := (fun w' => w'.cell? ⟨xb, 0, none⟩ = some (.slice XA bz.length xc) ∧ (convert 54 9 (.slice XA bz.length xc)).run Try.prog w' = .ok (.string (str bz)) w' ∧ (convert 54 9 (.slice A4 bz.length c4)).run Try.prog w' = .ok (.string (str bz)) w')) (fun w h => ⟨h.1, h.2.1⟩) _ _ _ _ ?_
              have hHeld2 : (fun w' => w'.cell? ⟨xb, 0, none⟩ = some (.slice XA bz.length xc) ∧ (convert 54 9 (.slice XA bz.length xc)).run Try.prog w' = .ok (.string (str bz)) w' ∧ (convert 54 9 (.slice A4 bz.length c4)).run Try.prog w' = .ok (.string (str bz)) w') w4 := ⟨cx4, sx4, s4⟩
              refine wpAnyH_take (i := 23) (v := ?_) (by first | (simp only [List.getElem?_toArray, List.getElem?_cons_succ, List.getElem?_cons_zero]; done) | (simp only [List.getElem?_toArray, List.getElem?_cons_succ, List.getElem?_cons_zero]; rfl)) (by kernel_rfl) (by kernel_rfl) (by kernel_rfl) (by exact fun _ _ _ h => h) (Or.inl ⟨by rfl, ?_⟩) (by assumption) ?_
              rotate_left
              · (intro w hSw; (try dsimp only at hSw); first | (go_simp; done) | (go_simp; with_reducible rfl))
              simp only [Act.put, List.setIfInBounds_toArray, List.set_cons_zero, List.set_cons_succ]
              refine wpAnyH_take (i := 29) (v := ?_) (by first | (simp only [List.getElem?_toArray, List.getElem?_cons_succ, List.getElem?_cons_zero]; done) | (simp only [List.getElem?_toArray, List.getElem?_cons_succ, List.getElem?_cons_zero]; rfl)) (by kernel_rfl) (by kernel_rfl) (by kernel_rfl) (by exact fun _ _ _ h => h) (Or.inl ⟨by rfl, ?_⟩) (by assumption) ?_
              rotate_left
              · (intro w hSw; (try dsimp only at hSw); first | (go_simp; done) | (go_simp; with_reducible rfl))
              simp only [Act.put, List.setIfInBounds_toArray, List.set_cons_zero, List.set_cons_succ]
              refine wpAnyH_take (i := 30) (v := ?_) (by first | (simp only [List.getElem?_toArray, List.getElem?_cons_succ, List.getElem?_cons_zero]; done) | (simp only [List.getElem?_toArray, List.getElem?_cons_succ, List.getElem?_cons_zero]; rfl)) (by kernel_rfl) (by kernel_rfl) (by kernel_rfl) (by exact fun _ _ _ h => h) (Or.inl ⟨by rfl, ?_⟩) (by assumption) ?_
              rotate_left
              · (intro w hSw; (try dsimp only at hSw); first | (go_simp; done) | (go_simp; with_reducible rfl))
              simp only [Act.put, List.setIfInBounds_toArray, List.set_cons_zero, List.set_cons_succ]
              refine wpAnyH_done (by kernel_rfl) ?_ _
              go_wp2_with fail
              go_meet
              exact ⟨rfl, _, _, _, o5⟩
            case rest =>
              obtain ⟨rfl, F5, G5, bz5, o5⟩ := hcut
              go_wp2_with fail
              exact ⟨⟨k + 1, F5, G5, bz5, by omega, by simp, o5⟩, by simp [intOf]; omega⟩
      · have hex : ¬ ((k : Int) < (l.length : Int)) ∨ ((k : Int) < (l.length : Int) ∧ ¬ ((k : Int) < 200)) := by omega
        clear hr'
        rcases hex with i0 | ⟨i0, i1⟩
        · go_wp2_with fail
          go_ret
          exact ⟨rfl, o.ql.bel⟩
        · go_wp2_with fail
          go_ret
          exact ⟨rfl, o.ql.bel⟩
  · have hbad : n < 0 ∨ 65536 < n := by omega
    clear hr hrow hlen
    go_enter Try.func6, Try.ntmps6
    go_wp2_with fail
    refine (q_new_bad n _ hbad).mono ?_
    rintro e W ⟨rfl, rfl⟩
    go_wp2_with fail
    refine (x_new_bad n _ hbad).mono ?_
    rintro e W ⟨rfl, rfl⟩
    go_wp2_with fail
    refine (queue_lives _).mono ?_
    rintro e W1 ⟨rfl, hb1⟩
    go_wp2_with fail
    go_loopw [8] (fun i wr => i = .int .i64 0 ∧ Below w.heap.size w wr) (fun _ _ => 0)
    case atStart => exact ⟨rfl, hb1⟩
    case round =>
      obtain ⟨rfl, hb2⟩ := hrel
      by_cases hpos : (0 : Int) < l.length
      · go_wp2_with fail
        go_ret
        exact ⟨rfl, hb2⟩
      · go_wp2_with fail
        go_ret
        exact ⟨rfl, hb2⟩
end Go.Proofs.Ytifiabhoeagblaa
