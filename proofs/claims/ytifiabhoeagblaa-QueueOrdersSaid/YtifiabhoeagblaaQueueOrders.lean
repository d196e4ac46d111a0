/-
  What was put into a queue comes out once, in order: the walk of 'QueueOrders'. No condition but that the arguments read as data.
-/
import Derived.Test.YtifiabhoeagblaaQueueLives
import Derived.Test.YtifiabhoeagblaaOpen
namespace Go.Proofs.Ytifiabhoeagblaa
open Go.ChangeShapes Go.WideShapes Go.ChangeAt Go.RowKit

/-- a row of bytes among rows: where it lies, its capacity, its bytes -/
structure BRow where
  A : Option Addr
  c : Nat
  b : List UInt8
def BRow.cell (r : BRow) : Value := .slice r.A r.b.length r.c
theorem open_brows {H : Type} {enc : TypeId × Value → H} {P : Program} {w : World} {base : Nat} {spare : Nat → Bool} {held : Bool} {t e e' : TypeId} {fuel : Nat} {cs : List Value} {x : DataW H × List MemPlace} (ht : P.underlying t = some (.slice e)) (he : P.underlying e = some (.slice e')) (he' : P.underlying e' = some (.int .u8)) (hsz : P.cellsOf e = 1) (hsz' : P.cellsOf e' = 1)
    (h : DataW.trod enc P w base spare held fuel t cs = some x) :
    ∃ (A : Option Addr) (cap : Nat) (l : List BRow), cs = [.slice A l.length cap] ∧ l.length ≤ cap ∧ cap ≤ maxLen ∧ (A = none → cap = 0) ∧ Reads w (fun _ => True) A (l.map BRow.cell) ∧ (∀ r ∈ l, Reads w (fun _ => True) r.A (r.b.map vb)) ∧ ∀ r ∈ l, r.b.length ≤ maxLen := by
  obtain ⟨A, cap, ys, hcs, hl, hm, hn, hr, hg⟩ := open_row (Y := BRow) (fun r => [r.cell]) (fun r => r.b.length ≤ maxLen ∧ Reads w (fun _ => True) r.A (r.b.map vb)) ht hsz (by omega)
    (fun n cs' x hx => by
      obtain ⟨A, cap, l, rfl, hl, hm, _, hr⟩ := open_bytes he he' hsz' hx
      exact ⟨⟨A, cap, l⟩, rfl, by simpa using (by omega : l.length ≤ maxLen), hr⟩) h
  exact ⟨A, cap, ys, hcs, hl, hm, hn, by rw [← flatMap_single]; exact hr, fun r hrl => (hg r hrl).1.2, fun r hrl => (hg r hrl).1.1⟩

/-- two values of the call's own and a queue, all apart -/
structure QO (w W : World) (F : Nat → Prop) (qb : Nat) (q : List UInt8) (vi vo : Value) (li lo : List UInt8) : Prop where
  ql : QL w W F qb q 1000
  oi : W.ownsRow w.heap.size 5 1 vi li.length (li.map vb)
  oo : W.ownsRow w.heap.size 5 1 vo lo.length (lo.map vb)
  fi : ∀ k, vi.ownBlock = some k → ¬ F k
  fo : ∀ k, vo.ownBlock = some k → ¬ F k
  ap : ∀ k, vi.ownBlock = some k → vo.ownBlock ≠ some k
section
variable {w W W' : World} {F F' : Nat → Prop} {qb : Nat} {q q' : List UInt8} {vi vo v' : Value} {li lo : List UInt8}
theorem QO.only (h : QO w W F qb q vi vo li lo) (hq : QL w W' F' qb q' 1000) (ho : Only F W W') (hF : ∀ k, F' k → F k ∨ W.heap.size ≤ k) : QO w W' F' qb q' vi vo li lo :=
  ⟨hq, own_only h.oi ho h.fi, own_only h.oo ho h.fo, fun k hk hf => (hF k hf).elim (h.fi k hk) (fun h2 => by have := (h.oi.lt k hk).2; omega), fun k hk hf => (hF k hf).elim (h.fo k hk) (fun h2 => by have := (h.oo.lt k hk).2; omega), h.ap⟩
theorem QO.appIn (h : QO w W F qb q vi vo li lo) (b : List UInt8) (hown : W'.ownsRow w.heap.size 5 1 v' (li.length + b.length) (li.map vb ++ b.map vb)) (hg : W.grownBy W' vi.ownBlock) (hat : v'.ownBlock = vi.ownBlock ∨ v'.ownBlock = some W.heap.size) : QO w W' F qb q v' vo (li ++ b) lo := by
  have ho : Only (fun k => vi.ownBlock = some k) W W' := (Only.refl _ _).grown hg (fun k hk _ => hk)
  refine ⟨⟨h.ql.qs.only ho (fun k hf he => h.fi k he hf), h.ql.lo, h.ql.bel.grown hg h.ql.bel.size (fun k hk => (h.oi.lt k hk).1)⟩, by simpa using hown, own_only h.oo ho (fun k hk he => h.ap k he hk), ?_, h.fo, ?_⟩
  · intro k hk hf
    rcases hat with e | e
    · exact h.fi k (e ▸ hk) hf
    · rw [e] at hk; injection hk with hk; have := h.ql.qs.2 k hf; omega
  · intro k hk he
    rcases hat with e | e
    · exact h.ap k (e ▸ hk) he
    · rw [e] at hk; injection hk with hk; have := (h.oo.lt k he).2; omega
theorem QO.appOut (h : QO w W F qb q vi vo li lo) (b : List UInt8) (hown : W'.ownsRow w.heap.size 5 1 v' (lo.length + b.length) (lo.map vb ++ b.map vb)) (hg : W.grownBy W' vo.ownBlock) (hat : v'.ownBlock = vo.ownBlock ∨ v'.ownBlock = some W.heap.size) : QO w W' F qb q vi v' li (lo ++ b) := by
  have ho : Only (fun k => vo.ownBlock = some k) W W' := (Only.refl _ _).grown hg (fun k hk _ => hk)
  refine ⟨⟨h.ql.qs.only ho (fun k hf he => h.fo k he hf), h.ql.lo, h.ql.bel.grown hg h.ql.bel.size (fun k hk => (h.oo.lt k hk).1)⟩, own_only h.oi ho (fun k hk he => h.ap k hk he), by simpa using hown, h.fi, ?_, ?_⟩
  · intro k hk hf
    rcases hat with e | e
    · exact h.fo k (e ▸ hk) hf
    · rw [e] at hk; injection hk with hk; have := h.ql.qs.2 k hf; omega
  · intro k hk he
    rcases hat with e | e
    · exact h.ap k hk (e ▸ he)
    · rw [e] at he; injection he with he; have := (h.oi.lt k hk).2; omega
end

set_option maxHeartbeats 1000000 in
theorem queue_orders_walk (A : Option Addr) (c : Nat) (l : List BRow) (piece : Int) (F0 : Nat → Prop) (w : World) (hl : l.length ≤ 9223372036854775807) (hr : Reads w F0 A (l.map BRow.cell)) (hrow : ∀ r ∈ l, Reads w F0 r.A (r.b.map vb)) (hlen : ∀ r ∈ l, r.b.length ≤ 9223372036854775807) :
    Calls Try.prog 7 #[.slice A l.length c, .int .i64 piece] w fun e w' => e = .returned (.bool true) ∧ Below w.heap.size w w' := by
  by_cases hin : l.length ≤ 100 ∧ 1 ≤ piece
  · obtain ⟨i0, hi, hz0, hz1, hz2⟩ := info_parts infoU8
    obtain ⟨h1, h2⟩ := hin
    have d1 : (l.length : Int) ≤ 100 := by omega
    have hr' := hr.mono (G := (· < w.heap.size)) (fun k hk _ => hk)
    have hrow' := Lib.hid fun r hrl => (hrow r hrl).mono (G := (· < w.heap.size)) (fun k hk _ => hk)
    have hlen' := Lib.hid hlen
    clear hr hrow hlen
    go_enter Try.func7, Try.ntmps7
    go_wp2_with fail
    refine (q_new_ok 1000 _ (by omega)).mono ?_
    rintro e W ⟨rfl, hq, hb⟩
    have g0 : QL w W (· = w.heap.size) w.heap.size [] 1000 := ⟨hq, fun k hk => by omega, hb⟩
    clear hq hb
    go_wp2_with fail
    refine (queue_lives _).mono ?_
    rintro e W1 ⟨rfl, hb1⟩
    have g1 := g0.below hb1
    clear g0 hb1
    have o1 : QO w W1 (· = w.heap.size) w.heap.size [] (.slice none 0 0) (.slice none 0 0) [] [] := ⟨g1, own_nil _ _ _ _, own_nil _ _ _ _, fun k hk => (by cases hk), fun k hk => (by cases hk), fun k hk => (by cases hk)⟩
    clear g1
    go_wp2_with fail
    go_loopw [7, 8, 9] (fun vi vo i wr => ∃ (k : Nat) (F : Nat → Prop) (q li lo : List UInt8), k ≤ l.length ∧ i = .int .i64 k ∧ QO w wr F w.heap.size q vi vo li lo ∧ li = lo ++ q ∧ li.length ≤ 1000 * k) (fun _ _ i _ => l.length - (intOf i).toNat)
    case atStart => exact ⟨0, _, [], [], [], by omega, rfl, o1, rfl, by simp⟩
    case round =>
      obtain ⟨k, F, q, li, lo, hk, rfl, o, hli, hbound⟩ := hrel
      clear o1
      by_cases hkl : k < l.length
      · obtain ⟨b, off, rfl, hbw, hbl, hc⟩ := (hr'.below o.ql.bel (fun _ _ h => h)).at_ (k := k) (by simpa using hkl)
        simp only [List.getElem_map, BRow.cell] at hc
        have hrb := (hrow'.out l[k] (List.getElem_mem hkl)).below o.ql.bel (fun _ _ h => h)
        have hlb := hlen'.out l[k] (List.getElem_mem hkl)
        have hcw := (o.ql.bel.cell (p := ⟨b, off + k, none⟩) hbw).symm.trans hc
        generalize l[k] = r at hc hrb hlb hcw
        obtain ⟨rA, rc, rb⟩ := r
        simp only at hc hrb hlb hcw
        have HLI := Lib.hid hli
        clear hli
        go_wp2_with fail
        refine (q_put o.ql.qs (· < w.heap.size) _ _ rb hrb (fun k hk hf => by have := o.ql.lo k hf; omega)).mono ?_
        rintro e W2 ⟨rfl, F', hF', hq', ho'⟩
        have g2 := o.only (o.ql.put hF' hq' ho') ho' hF'
        have hc2 := (g2.ql.bel.cell (p := ⟨b, off + k, none⟩) hbw).trans hcw
        have hrb2 := hrb.only ho' (fun j _ hj hf => by have := o.ql.lo j hf; omega)
        obtain ⟨q5, q6⟩ := o.ql.qs.le
        clear hF' hq' ho' o hc hrb hcw
        have hT0 := takeN_le
        by_cases hfit : q.length + rb.length ≤ 1000
        · have e1 : putB 1000 q rb = true := by simp [putB, hfit]
          have e2 : putL 1000 q rb = q ++ rb := by simp [putL, hfit]
          rw [e1]
          rw [e2] at g2
          have HLO := Lib.hid (congrArg List.length HLI.out |>.trans List.length_append)
          go_wp2_with (refine wpList_append_rd _ rfl (.tmp 44) (.tmp 48) 54 rfl w.heap.size 5 i0 (.int .u8 0) 1 1 Try.underlying54 hi hz0 hz1 hz2 rfl (by omega) u7 li.length (li.map vb) (by rfl) g2.oi _ rA rb.length rc (rb.map vb) (by rfl) (by simp) hrb2 (vb_one _) (by unfold maxLen; omega) (by omega) g2.ql.bel.size ?_)
          intro v3 W3 hown3 hg3 hat3
          have g3 := g2.appIn rb hown3 hg3 hat3
          obtain ⟨Q3, HQ⟩ : ∃ Q3, Hid (q ++ rb = Q3) := ⟨_, Lib.hid rfl⟩
          rw [HQ.out] at g3
          clear hown3 hg3 hat3 g2 hrb2 hc2
          have HLO := Lib.hid (show lo.length + Q3.length ≤ 200000 by have h1 := congrArg List.length HLI.out; have h2 := congrArg List.length HQ.out; simp only [List.length_append] at h1 h2; omega)
          go_wp2_with fail
          refine (q_take g3.ql.qs piece).mono ?_
          rintro e W4 ⟨v4, rfl, hv4, hq4, ho4⟩
          have g4 := g3.only (g3.ql.same hq4 ho4) ho4 (fun _ hk => .inl hk)
          obtain ⟨A4, c4, rfl, _, _, _, hr4⟩ := own_reads hv4
          have hT := hT0 piece Q3.length
          generalize takeN piece Q3.length = T at hv4 hq4 hr4 hT g4 ⊢
          have HX4 := Lib.hid (And.intro (List.take_append_drop T Q3) (show (Q3.take T).length = T by rw [List.length_take]; omega))
          generalize Q3.take T = X4 at hr4 HX4
          generalize Q3.drop T = Q4 at g4 HX4
          clear hv4 hq4 ho4 hT
          go_wp2_with (refine wpList_append_rd _ rfl (.tmp 50) (.tmp 53) 54 rfl w.heap.size 5 i0 (.int .u8 0) 1 1 Try.underlying54 hi hz0 hz1 hz2 rfl (by omega) u8 lo.length (lo.map vb) (by rfl) g4.oo _ A4 T c4 (X4.map vb) (by rfl) (by rw [List.length_map, Nat.mul_one]; exact HX4.out.2) hr4 (vb_one _) (by have h1 := HLO.out; have h2 := congrArg List.length HX4.out.1; have h3 := HX4.out.2; simp only [List.length_append] at h2; unfold maxLen; omega) (by have h1 := HLO.out; have h2 := congrArg List.length HX4.out.1; have h3 := HX4.out.2; simp only [List.length_append] at h2; omega) g4.ql.bel.size ?_)
          intro v5 W5 hown5 hg5 hat5
          have g5 := g4.appOut X4 (v' := v5) (W' := W5) (by rw [HX4.out.2]; exact hown5) hg5 hat5
          clear hown5 hg5 hat5 hr4 g4 g3
          go_wp2_with fail
          refine ⟨⟨k + 1, _, _, _, _, by omega, by simp, g5, ?_, ?_⟩, ?_⟩
          · have h1 := HX4.out.1
            rw [HLI.out, List.append_assoc, List.append_assoc, h1, HQ.out]
          · rw [List.length_append]
            omega
          · simp [intOf]
            omega
        · have e1 : putB 1000 q rb = false := by simp [putB, hfit]
          have e2 : putL 1000 q rb = q := by simp [putL, hfit]
          rw [e1]
          rw [e2] at g2
          have HLO := Lib.hid (show lo.length + q.length ≤ 200000 by have h1 := congrArg List.length HLI.out; simp only [List.length_append] at h1; omega)
          clear hrb2 hc2
          go_wp2_with fail
          refine (q_take g2.ql.qs piece).mono ?_
          rintro e W4 ⟨v4, rfl, hv4, hq4, ho4⟩
          have g4 := g2.only (g2.ql.same hq4 ho4) ho4 (fun _ hk => .inl hk)
          obtain ⟨A4, c4, rfl, _, _, _, hr4⟩ := own_reads hv4
          have hT := hT0 piece q.length
          generalize takeN piece q.length = T at hv4 hq4 hr4 hT g4 ⊢
          have HX4 := Lib.hid (And.intro (List.take_append_drop T q) (show (q.take T).length = T by rw [List.length_take]; omega))
          generalize q.take T = X4 at hr4 HX4
          generalize q.drop T = Q4 at g4 HX4
          clear hv4 hq4 ho4 hT
          go_wp2_with (refine wpList_append_rd _ rfl (.tmp 50) (.tmp 53) 54 rfl w.heap.size 5 i0 (.int .u8 0) 1 1 Try.underlying54 hi hz0 hz1 hz2 rfl (by omega) u8 lo.length (lo.map vb) (by rfl) g4.oo _ A4 T c4 (X4.map vb) (by rfl) (by rw [List.length_map, Nat.mul_one]; exact HX4.out.2) hr4 (vb_one _) (by have h1 := HLO.out; have h2 := congrArg List.length HX4.out.1; have h3 := HX4.out.2; simp only [List.length_append] at h2; unfold maxLen; omega) (by have h1 := HLO.out; have h2 := congrArg List.length HX4.out.1; have h3 := HX4.out.2; simp only [List.length_append] at h2; omega) g4.ql.bel.size ?_)
          intro v5 W5 hown5 hg5 hat5
          have g5 := g4.appOut X4 (v' := v5) (W' := W5) (by rw [HX4.out.2]; exact hown5) hg5 hat5
          clear hown5 hg5 hat5 hr4 g4 g2
          go_wp2_with fail
          refine ⟨⟨k + 1, _, _, _, _, by omega, by simp, g5, ?_, ?_⟩, ?_⟩
          · have h1 := HX4.out.1
            rw [HLI.out, List.append_assoc, h1]
          · omega
          · simp [intOf]
            omega
      · obtain rfl : k = l.length := by omega
        have HLI := Lib.hid hli
        have HLO := Lib.hid (show lo.length + q.length ≤ 200000 by have h1 := congrArg List.length hli; simp only [List.length_append] at h1; omega)
        have hT0 := takeN_le
        clear hli
        go_wp2_with fail
        refine (q_take o.ql.qs 1000).mono ?_
        rintro e W4 ⟨v4, rfl, hv4, hq4, ho4⟩
        have g4 := o.only (o.ql.same hq4 ho4) ho4 (fun _ hk => .inl hk)
        obtain ⟨A4, c4, rfl, _, _, _, hr4⟩ := own_reads hv4
        have hT := hT0 1000 q.length
        have hTq : takeN 1000 q.length = q.length := by have := o.ql.qs.le; simp only [takeN]; omega
        obtain ⟨T, HT0⟩ : ∃ T, takeN 1000 q.length = T := ⟨_, rfl⟩
        have HTT := Lib.hid (show q.length = T by omega)
        rw [HT0] at hv4 hq4 hr4 hT g4 ⊢
        clear HT0 hTq
        have HX4 := Lib.hid (And.intro (List.take_append_drop T q) (show (q.take T).length = T by rw [List.length_take]; omega))
        generalize q.take T = X4 at hr4 HX4
        generalize q.drop T = Q4 at g4 HX4
        clear hv4 hq4 ho4 hT
        go_wp2_with (refine wpList_append_rd _ rfl (.tmp 55) (.tmp 57) 54 rfl w.heap.size 5 i0 (.int .u8 0) 1 1 Try.underlying54 hi hz0 hz1 hz2 rfl (by omega) u8 lo.length (lo.map vb) (by rfl) g4.oo _ A4 T c4 (X4.map vb) (by rfl) (by rw [List.length_map, Nat.mul_one]; exact HX4.out.2) hr4 (vb_one _) (by have h1 := HLO.out; have h2 := congrArg List.length HX4.out.1; have h3 := HX4.out.2; simp only [List.length_append] at h2; unfold maxLen; omega) (by have h1 := HLO.out; have h2 := congrArg List.length HX4.out.1; have h3 := HX4.out.2; simp only [List.length_append] at h2; omega) g4.ql.bel.size ?_)
        intro v5 W5 hown5 hg5 hat5
        have g5 := g4.appOut X4 (v' := v5) (W' := W5) (by rw [HX4.out.2]; exact hown5) hg5 hat5
        clear hown5 hg5 hat5 hr4 g4 o
        go_wp2_with fail
        have hX : X4 = q ∧ Q4 = [] := by
          have h1 := HX4.out.1
          have h2 := HX4.out.2
          have h3 := HTT.out
          have h4 := congrArg List.length h1
          rw [List.length_append] at h4
          have h5 : Q4 = [] := List.eq_nil_of_length_eq_zero (by omega)
          subst h5
          exact ⟨by simpa using h1, rfl⟩
        obtain ⟨rfl, rfl⟩ := hX
        obtain rfl := HLI.out
        obtain ⟨A7, c7, rfl⟩ := own_len g5.oi
        obtain ⟨A8, c8, rfl⟩ := own_len g5.oo
        have s7 := (OV.make g5.oi (F := fun _ => False) (fun k hk => hk.elim)).str (P := Try.prog) 54 9 Try.underlying54 Try.underlying5 Try.underlying9
        have s8 := (OV.make g5.oo (F := fun _ => False) (fun k hk => hk.elim)).str (P := Try.prog) 54 9 Try.underlying54 Try.underlying5 Try.underlying9
        simp only [List.length_append] at s7 s8
        go_wp2_with fail
        refine (qs_len g5.ql.qs).mono ?_
        rintro e W6 ⟨he, rfl⟩
        obtain rfl : e = .returned (.int .i64 0) := he
        go_wp2_with fail
        refine (qs_room g5.ql.qs).mono ?_
        rintro e W7 ⟨he, k7, rfl⟩
        obtain rfl : e = .returned (.int .i64 1000) := he
        go_wp2_with fail
        go_ret
        exact ⟨rfl, (g5.ql.drewN k7).bel⟩
  · by_cases h1 : (100 : Int) < l.length
    · go_enter Try.func7, Try.ntmps7
      go_wp2_with fail
      refine (queue_lives _).mono ?_
      rintro e W1 ⟨rfl, hb1⟩
      go_wp2_with fail
      go_ret
      exact ⟨rfl, hb1⟩
    · have h2 : piece < 1 := by omega
      go_enter Try.func7, Try.ntmps7
      go_wp2_with fail
      refine (queue_lives _).mono ?_
      rintro e W1 ⟨rfl, hb1⟩
      go_wp2_with fail
      go_ret
      exact ⟨rfl, hb1⟩
end Go.Proofs.Ytifiabhoeagblaa
