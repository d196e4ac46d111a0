/-
  In whatever order loads are added: the walk of 'LoadOrders'. Under: the loads read as data.
-/
import Derived.Test.YtneablcgcdmgpaaLoadOpen
namespace Go.Proofs.Ytneablcgcdmgpaa
open Go.ChangeShapes Go.WideShapes Go.ChangeAt Go.RowKit Go.Maps

/-- two loads, apart -/
structure Two (w0 wr : World) (g1 b1 m1 g2 b2 m2 : Nat) (x y : LD) : Prop where
  la : LoadsAt wr g1 b1 m1 x
  lb : LoadsAt wr g2 b2 m2 y
  ap : (¬ g1 = g2) ∧ (¬ g1 = b2) ∧ (¬ b1 = g2) ∧ (¬ b1 = b2)
  lo : w0.heap.size ≤ g1 ∧ w0.heap.size ≤ b1 ∧ w0.heap.size ≤ g2 ∧ w0.heap.size ≤ b2
  bel : Below w0.heap.size w0 wr
theorem Two.below {w0 wr W : World} {g1 b1 m1 g2 b2 m2 : Nat} {x y : LD} (o : Two w0 wr g1 b1 m1 g2 b2 m2 x y) (hb : Below wr.heap.size wr W) : Two w0 W g1 b1 m1 g2 b2 m2 x y :=
  ⟨o.la.below hb, o.lb.below hb, o.ap, o.lo, o.bel.trans (hb.mono o.bel.size)⟩
theorem Two.left {w0 wr W : World} {g1 b1 m1 g2 b2 m2 m : Nat} {x y z : LD} (o : Two w0 wr g1 b1 m1 g2 b2 m2 x y) (hl : LoadsAt W g1 b1 m z) (ho : Only (fun k => k = g1 ∨ k = b1) wr W) : Two w0 W g1 b1 m g2 b2 m2 z y := by
  obtain ⟨a1, a2, a3, a4⟩ := o.ap
  obtain ⟨l1, l2, l3, l4⟩ := o.lo
  refine ⟨hl, o.lb.only ho ?_ ?_, o.ap, o.lo, o.bel.trans (ho.below o.bel.size (by rintro k (e | e) <;> omega))⟩
  · rintro (e | e) <;> omega
  · rintro (e | e) <;> omega
theorem Two.right {w0 wr W : World} {g1 b1 m1 g2 b2 m2 m : Nat} {x y z : LD} (o : Two w0 wr g1 b1 m1 g2 b2 m2 x y) (hl : LoadsAt W g2 b2 m z) (ho : Only (fun k => k = g2 ∨ k = b2) wr W) : Two w0 W g1 b1 m1 g2 b2 m x z := by
  obtain ⟨a1, a2, a3, a4⟩ := o.ap
  obtain ⟨l1, l2, l3, l4⟩ := o.lo
  refine ⟨o.la.only ho ?_ ?_, hl, o.ap, o.lo, o.bel.trans (ho.below o.bel.size (by rintro k (e | e) <;> omega))⟩
  · rintro (e | e) <;> omega
  · rintro (e | e) <;> omega
theorem addsL_len (l : LS) : (addsL l).s.length ≤ l.length := by
  suffices h : ∀ (l : LS) (x : LD), x.ok → (l.foldl (fun x p => x.add p.1 p.2) x).s.length ≤ x.s.length + l.length by
    have := h l _ LD.ok_nil
    simpa [addsL] using this
  intro l
  induction l with
  | nil => intro x _; simp
  | cons p l ih =>
    intro x hx
    have h1 := ih _ (LD.ok_add hx p.1 p.2)
    have h2 := LD.len_add x hx p.1 p.2
    simp only [List.foldl_cons, List.length_cons]
    omega
set_option maxRecDepth 20000 in
set_option maxHeartbeats 8000000 in
theorem orders_walk {w : World} {A : Option Addr} {c : Nat} {l : LS} (hl : LoadsIn w A l) (turn : Int) :
    Calls Try.prog 7 #[.slice A l.length c, .int .i64 turn] w fun e w' => e = .returned (.bool true) ∧ Below w.heap.size w w' := by
  have hp1 := ptr_some
  have HL := Lib.hid hl
  have hlen := hl.len
  clear hl
  by_cases hin : l.length = 0 ∨ 100 < l.length ∨ turn < 0
  · by_cases h0 : l.length = 0
    · go_enter Try.func7, Try.ntmps7
      go_wp2_with fail
      refine (lives_any _).mono ?_
      rintro e w2 ⟨rfl, hb⟩
      go_wp2_with fail
      go_ret
      exact ⟨rfl, hb⟩
    · by_cases h100 : 100 < l.length
      · go_enter Try.func7, Try.ntmps7
        go_wp2_with fail
        refine (lives_any _).mono ?_
        rintro e w2 ⟨rfl, hb⟩
        go_wp2_with fail
        go_ret
        exact ⟨rfl, hb⟩
      · have ht0 : turn < 0 := by omega
        go_enter Try.func7, Try.ntmps7
        go_wp2_with fail
        refine (lives_any _).mono ?_
        rintro e w2 ⟨rfl, hb⟩
        go_wp2_with fail
        go_ret
        exact ⟨rfl, hb⟩
  · have hl0 : ¬ l.length = 0 := by omega
    have h100 : ¬ 100 < l.length := by omega
    have ht0 : ¬ turn < 0 := by omega
    have hl00 : ((l.length : Int) == 0) = false := by rw [beq_eq_false_iff_ne]; omega
    have hl01 : ¬ 100 < (l.length : Int) := by omega
    clear hin
    go_enter Try.func7, Try.ntmps7
    go_wp2_with fail
    refine (new_any _).mono ?_
    rintro e w1 ⟨g1, b1, rfl, hL, hb, hg, hbb⟩
    have HL1 := Lib.hid hL
    have HB1 := Lib.hid hb
    have HA1 := Lib.hid (And.intro hg hbb)
    clear hL hb hg hbb
    go_wp2_with fail
    refine (new_any _).mono ?_
    rintro e w2 ⟨g2, b2, rfl, hL, hb, hg, hbb⟩
    have HT2 := Lib.hid (show Two w w2 g1 b1 0 g2 b2 0 ⟨[], false⟩ ⟨[], false⟩ from by
      have hgl := HL1.out.blk.lt
      have hbl : b1 < w1.heap.size := by obtain ⟨D, h1, _⟩ := HL1.out.map; exact h1.lt
      obtain ⟨h3, h4⟩ := HA1.out
      have := HB1.out.size
      exact ⟨HL1.out.below hb, hL, ⟨by omega, by omega, by omega, by omega⟩, ⟨h3, h4, by omega, by omega⟩, HB1.out.trans (hb.mono this)⟩)
    clear hL hb hg hbb HA1 HB1 HL1
    go_wp2_with fail
    refine (lives_any _).mono ?_
    rintro e w3 ⟨rfl, hb⟩
    have HT3 := Lib.hid (HT2.out.below hb)
    clear hb HT2
    go_wp2_with fail
    obtain ⟨n, hn, hnl⟩ : ∃ n : Nat, turn % (l.length : Int) = n ∧ n < l.length := by
      have h1 := Int.emod_nonneg turn (show (l.length : Int) ≠ 0 by omega)
      have h2 := Int.emod_lt_of_pos turn (show 0 < (l.length : Int) by omega)
      exact ⟨(turn % (l.length : Int)).toNat, by omega, by omega⟩
    rw [hn]
    clear hn ht0
    have hlen2 : l.length ≤ 100 := by omega
    go_loopw [8, 9] (fun iv kv wr => ∃ k : Nat, k ≤ l.length ∧ iv = .int .i64 k ∧ Two w wr g1 b1 k g2 b2 k (addsL (l.take k)) (addsL ((turned l n).take k))) (fun iv _ _ => l.length - (intOf iv).toNat)
    case atStart => exact ⟨0, Nat.zero_le _, rfl, HT3.out⟩
    case round =>
      obtain ⟨k, hk, rfl, o⟩ := hrel
      have HO := Lib.hid o
      clear o HT3
      by_cases hkl : k < l.length
      · obtain ⟨kk, hkke⟩ : ∃ kk : Nat, (k + n) % l.length = kk := ⟨_, rfl⟩
        have hkk : kk < l.length := hkke ▸ Nat.mod_lt _ (by omega)
        have hmod : ((k : Int) + n) % (l.length : Int) = kk := by
          rw [← hkke, Int.natCast_emod, Int.natCast_add]
        obtain ⟨b0, off, rfl, hbl, _, hc0, hc1⟩ := load_at HL.out.rd hkl
        have HD := Lib.hid (show w.cell? ⟨b0, off + kk * 2, none⟩ = some (.int .i64 l[kk].1) ∧ w.cell? ⟨b0, off + kk * 2 + 1, none⟩ = some (.int .i64 l[kk].2) from by
          obtain ⟨b1, off1, e1, _, _, h1, h2⟩ := load_at HL.out.rd hkk
          injection e1 with e1
          injection e1 with e1 e2
          subst e1; subst e2
          exact ⟨h1, h2⟩)
        have hk0 : (wr.cell? ⟨b0, off + k * 2, none⟩ = some (.int .i64 l[k].1)) ∧ (wr.cell? ⟨b0, off + k * 2 + 1, none⟩ = some (.int .i64 l[k].2)) := ⟨(HO.out.bel.cell (p := ⟨b0, off + k * 2, none⟩) hbl).trans hc0, (HO.out.bel.cell (p := ⟨b0, off + k * 2 + 1, none⟩) hbl).trans hc1⟩
        have HKW := Lib.hid fun (W : World) (hb : Below w.heap.size w W) => (show (W.cell? ⟨b0, off + k * 2, none⟩ = some (.int .i64 l[k].1)) ∧ (W.cell? ⟨b0, off + k * 2 + 1, none⟩ = some (.int .i64 l[k].2)) from ⟨(hb.cell (p := ⟨b0, off + k * 2, none⟩) hbl).trans hc0, (hb.cell (p := ⟨b0, off + k * 2 + 1, none⟩) hbl).trans hc1⟩)
        have HDW := Lib.hid fun (W : World) (hb : Below w.heap.size w W) => (show (W.cell? ⟨b0, off + kk * 2, none⟩ = some (.int .i64 l[kk].1)) ∧ (W.cell? ⟨b0, off + kk * 2 + 1, none⟩ = some (.int .i64 l[kk].2)) from ⟨(hb.cell (p := ⟨b0, off + kk * 2, none⟩) hbl).trans HD.out.1, (hb.cell (p := ⟨b0, off + kk * 2 + 1, none⟩) hbl).trans HD.out.2⟩)
        clear hc0 hc1
        have HW1 := Lib.hid (HL.out.wf _ (List.getElem_mem hkl))
        have HW2 := Lib.hid (HL.out.wf _ (List.getElem_mem hkk))
        have HT1 := Lib.hid (addsL_take hkl)
        have HTT := Lib.hid (show addsL ((turned l n).take (k + 1)) = (addsL ((turned l n).take k)).add l[kk].1 l[kk].2 from by
          rw [addsL_take (l := turned l n) (k := k) (by rw [turned_len hnl]; exact hkl), turned_at hnl hkl]
          subst hkke
          rfl)
        have HX := Lib.hid (addsL_ok (l.take k))
        have HY := Lib.hid (addsL_ok ((turned l n).take k))
        clear hkke
        generalize l[k] = p at *
        generalize l[kk] = q at *
        generalize addsL (l.take k) = x at *
        generalize addsL ((turned l n).take k) = y at *
        obtain ⟨p1, p2⟩ := p
        obtain ⟨q1, q2⟩ := q
        simp only at *
        obtain ⟨ha0, ha1⟩ := hk0
        have hk0 : (wr.cell? ⟨b0, off + k * 2, none⟩ = some (.int .i64 p1)) ∧ (wr.cell? ⟨b0, off + k * 2 + 1, none⟩ = some (.int .i64 p2)) := ⟨ha0, ha1⟩
        go_upto_region 11 with fail
        rw [hmod]
        clear hmod
        go_region_held3 (fun W => (W.cell? ⟨b0, off + k * 2, none⟩ = some (.int .i64 p1)) ∧ (W.cell? ⟨b0, off + k * 2 + 1, none⟩ = some (.int .i64 p2))) (first | exact hk6 | exact hk0 | go_keep) ((go_at_call 10; refine (ladd_any (HO.out.below (by repeat (first | exact Below.refl _ _ | refine Below.drew ?_ | refine Below.alloc ?_ (by simp) _))).la HX.out p1 p2 HW1.out (by omega)).mono ?_; rintro e w4 ⟨rfl, hl4, ho4⟩; have HO4 := Lib.hid ((HO.out.below (by repeat (first | exact Below.refl _ _ | refine Below.drew ?_ | refine Below.alloc ?_ (by simp) _))).left hl4 ho4); have hk6 := HKW.out w4 HO4.out.bel))
        rw [← HT1.out] at HO4
        clear hl4 ho4 HX ha0 ha1 hk0 hk6
        obtain ⟨hd0, hd1⟩ := HD.out
        have hk5 : (w4.cell? ⟨b0, off + kk * 2, none⟩ = some (.int .i64 q1)) ∧ (w4.cell? ⟨b0, off + kk * 2 + 1, none⟩ = some (.int .i64 q2)) := ⟨(HO4.out.bel.cell (p := ⟨b0, off + kk * 2, none⟩) hbl).trans hd0, (HO4.out.bel.cell (p := ⟨b0, off + kk * 2 + 1, none⟩) hbl).trans hd1⟩
        obtain ⟨hd0, hd1⟩ := hk5
        have hk5 : (w4.cell? ⟨b0, off + kk * 2, none⟩ = some (.int .i64 q1)) ∧ (w4.cell? ⟨b0, off + kk * 2 + 1, none⟩ = some (.int .i64 q2)) := ⟨hd0, hd1⟩
        go_upto_region 12 with fail
        go_region_held3 (fun W => (W.cell? ⟨b0, off + kk * 2, none⟩ = some (.int .i64 q1)) ∧ (W.cell? ⟨b0, off + kk * 2 + 1, none⟩ = some (.int .i64 q2))) (first | exact hk7 | exact hk5 | go_keep) ((go_at_call 10; refine (ladd_any (HO4.out.below (by repeat (first | exact Below.refl _ _ | refine Below.drew ?_ | refine Below.alloc ?_ (by simp) _))).lb HY.out q1 q2 HW2.out (by omega)).mono ?_; rintro e w5 ⟨rfl, hl5, ho5⟩; have HO5 := Lib.hid ((HO4.out.below (by repeat (first | exact Below.refl _ _ | refine Below.drew ?_ | refine Below.alloc ?_ (by simp) _))).right hl5 ho5); have hk7 := HDW.out w5 HO5.out.bel))
        rw [← HTT.out] at HO5
        clear hl5 ho5 HO4 hd0 hd1 hk5 hk7
        go_wp2_with fail
        go_roundw
        case rel => exact ⟨k + 1, by omega, by go_num, HO5.out⟩
        case measure => simp [intOf]; omega
      · obtain rfl : k = l.length := by omega
        have hT : Two w wr g1 b1 l.length g2 b2 l.length (addsL l) (addsL l) := by
          have h := HO.out
          rw [List.take_length] at h
          have e : (turned l n).take l.length = turned l n := by rw [← turned_len hnl, List.take_length]
          rw [e, addsL_turned] at h
          exact h
        have HT := Lib.hid hT
        have hok := Lib.hid (addsL_ok l)
        clear hT HO
        have hsl : (addsL l).s.length ≤ l.length := addsL_len l
        generalize addsL l = x at *
        go_wp2_with fail
        refine (all_any HT.out.la hok.out (by omega)).mono ?_
        rintro e w4 ⟨v4, rfl, hown4, hb4⟩
        obtain ⟨A4, c4, rfl, hrd4⟩ := own_readsN hown4
        have HT4 := Lib.hid (HT.out.below hb4)
        have HR4 := Lib.hid hrd4
        clear hrd4 hown4 hb4 HT
        go_wp2_with fail
        refine (all_any HT4.out.lb hok.out (by omega)).mono ?_
        rintro e w5 ⟨v5, rfl, hown5, hb5⟩
        obtain ⟨A5, c5, rfl, hrd5⟩ := own_readsN hown5
        have HT5 := Lib.hid (HT4.out.below hb5)
        have HR5 := Lib.hid hrd5
        have HR45 := Lib.hid (HR4.out.below hb5 (fun _ h _ => h))
        clear hrd5 hown5 hb5 HT4 HR4
        go_wp2_with fail
        refine (same_any HR45.out HR5.out (by omega)).mono ?_
        rintro e w6 ⟨rfl, hb6⟩
        have HT6 := Lib.hid (HT5.out.below hb6)
        clear HT5 HR45 HR5 hb6
        go_wp2_with fail
        refine (over_any HT6.out.la).mono ?_
        rintro e w7 ⟨rfl, rfl⟩
        go_wp2_with fail
        refine (over_any HT6.out.lb).mono ?_
        rintro e w7 ⟨rfl, rfl⟩
        go_wp2_with fail
        go_ret
        exact ⟨by simp, HT6.out.bel⟩
end Go.Proofs.Ytneablcgcdmgpaa
