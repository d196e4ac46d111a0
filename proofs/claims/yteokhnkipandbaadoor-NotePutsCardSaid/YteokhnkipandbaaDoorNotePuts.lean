/-
  Which notes may be, and their messages; they are got: the walk of 'NotePuts'. No condition but that the data read as data and the tables as they are laid.
-/
import Derived.Test.YteokhnkipandbaaDoorNoteL
import Derived.Test.YteokhnkipandbaaDoorNoteP
import Derived.Test.YteokhnkipandbaaDoorHeld
namespace Go.Proofs.YteokhnkipandbaaDoor
open Go.ChangeShapes Go.WideShapes Go.ChangeAt Go.RowKit

/-- the note that came in lies where it was laid -/
structure NK (w W : World) (g : Nat) (cs : Array Value) : Prop where
  bel : Below w.heap.size w W
  blk : Blk W g 68 cs
theorem NK.below {w W W' : World} {g : Nat} {cs : Array Value} (h : NK w W g cs) (hb : Below W.heap.size W W') : NK w W' g cs := ⟨h.bel.trans (hb.mono h.bel.size), h.blk.below hb h.blk.lt⟩
theorem NK.alloc {w W : World} {g : Nat} {cs : Array Value} (h : NK w W g cs) (o : Obj) : NK w (W.alloc o) g cs := h.below ((Below.refl _ _).alloc (Nat.le_refl _) o)
theorem blk2 {w : World} {g : Nat} {t : TypeId} {a b : Value} (h : Blk w g t #[a, b]) : w.cell? ⟨g, 0, none⟩ = some a ∧ w.cell? ⟨g, 1, none⟩ = some b ∧ w.frozen? ⟨g, 0, none⟩ = false ∧ w.frozen? ⟨g, 1, none⟩ = false :=
  ⟨by rw [h.cell 0]; rfl, by rw [h.cell 1]; rfl, h.frozen 0, h.frozen 1⟩

set_option maxRecDepth 10000 in
set_option maxHeartbeats 4000000 in
theorem note_puts_no (n : NV) (w : World) (hl : n.d.length ≤ 9223372036854775807) (hok : noteOk n = false) (hnm : w.cell? ⟨0, 6, none⟩ = some (.string cease)) :
    Calls Tryd.prog 17 #[n.val] w fun e w' => e = .returned (.bool true) ∧ Below w.heap.size w w' := by
  have hg0 := block_lt_of_cell hnm
  have k0 : NK w (w.alloc (.cells n.cells 68)) w.heap.size n.cells := ⟨(Below.refl w.heap.size w).alloc (Nat.le_refl _) _, Blk.new w _ _⟩
  by_cases h1 : (6000 : Int) < n.d.length
  case pos =>
    obtain ⟨c1, x1, A1, c, d⟩ := n
    simp only [NV.val, NV.cells] at *
    have hnm2 := (k0.bel.cell (p := ⟨0, 6, none⟩) hg0).trans hnm
    have hb0 := k0.bel
    clear k0 hok
    go_enter Tryd.func17, Tryd.ntmps17
    go_wp2_with fail
    refine (note_lives _ hnm2).mono ?_
    rintro e w1 ⟨rfl, hb⟩
    go_wp2_with fail
    go_ret
    exact ⟨rfl, hb0.trans (hb.mono (by simp))⟩
  have HP := Lib.hid fun W => put_no n W hl hok
  have HC := Lib.hid fun W => check_any n W hl
  have HR := Lib.hid fun W => refcheck_any n W hl
  have HN := Lib.hid fun W => name_no n W hl hok
  have HE := Lib.hid (noteE_no hok)
  have HO := Lib.hid hok
  obtain ⟨c1, x1, A1, c, d⟩ := n
  simp only [NV.val, NV.cells] at *
  obtain ⟨p0, p1, p2, -, -, -⟩ := blk3 k0.blk
  clear hok hl
  go_enter Tryd.func17, Tryd.ntmps17
  go_wp2_with fail
  refine (HP.out _).mono ?_
  rintro e W1 ⟨rfl, b1⟩
  have k1 := (k0.below b1).alloc (.cells msgNone 61)
  have m1 := Blk.new W1 61 msgNone
  have hnm1 := (k1.bel.cell (p := ⟨0, 6, none⟩) hg0).trans hnm
  unfold msgNone at k1 m1 hnm1 ⊢
  clear b1 k0 p0 p1 p2
  go_wp2_with fail
  refine (note_lives _ hnm1).mono ?_
  rintro e W2 ⟨rfl, b2⟩
  have k2 := k1.below b2
  have m2 := m1.below b2 m1.lt
  clear k1 m1 b2 hnm1
  obtain ⟨p0, p1, p2, -, -, -⟩ := blk3 k2.blk
  go_wp2_with fail
  refine (HR.out _).mono ?_
  rintro e W3 ⟨rfl, b3⟩
  rw [HO.out]
  have k3 := k2.below b3
  have m3 := m2.below b3 m2.lt
  clear k2 m2 b3 p0 p1 p2
  obtain ⟨p0, p1, p2, -, -, -⟩ := blk3 k3.blk
  obtain ⟨q0, q1, -, -⟩ := blk2 m3
  go_wp2_with fail
  refine (HC.out _).mono ?_
  rintro e W4 ⟨rfl, b4⟩
  rw [HE.out]
  have k4 := k3.below b4
  clear k3 m3 b4 p0 p1 p2 q0 q1
  obtain ⟨p0, p1, p2, -, -, -⟩ := blk3 k4.blk
  go_wp2_with fail
  refine (HN.out _).mono ?_
  rintro e W5 ⟨he, b5⟩
  obtain rfl : e = .returned (.string ⟨#[]⟩) := he
  have k5 := k4.below b5
  clear k4 b5 p0 p1 p2
  go_wp2_with fail
  go_ret
  exact ⟨rfl, k5.bel⟩

theorem own_conv {w : World} {B : Nat} {v : Value} {l : List UInt8} (h : w.ownsRow B 5 1 v l.length (l.map vb)) : ∃ A c, v = .slice A l.length c ∧ (convert 59 9 (.slice A l.length c)).run Tryd.prog w = .ok (.string (str l)) w := by
  obtain ⟨A, c, hv, _, _, _, hr⟩ := own_reads h
  exact ⟨A, c, hv, run_convert_rd (P := Tryd.prog) 59 9 5 c Tryd.underlying59 Tryd.underlying5 Tryd.underlying9 hr⟩

structure NQ (w W : World) (g : Nat) (cs : Array Value) (A : Option Addr) (d : List UInt8) (h1 : Nat) (A1 : Option Addr) (c1 : Nat) (b : List UInt8) : Prop where
  n : NK w W g cs
  r : Reads W (· < w.heap.size) A (d.map vb)
  m : Blk W h1 61 #[.int .i64 3, .slice A1 b.length c1]
  o : W.ownsRow 0 5 1 (.slice A1 b.length c1) b.length (b.map vb)
theorem NQ.below {w W W' : World} {g : Nat} {cs : Array Value} {A : Option Addr} {d : List UInt8} {h1 : Nat} {A1 : Option Addr} {c1 : Nat} {b : List UInt8} (h : NQ w W g cs A d h1 A1 c1 b) (hb : Below W.heap.size W W') : NQ w W' g cs A d h1 A1 c1 b :=
  ⟨h.n.below hb, h.r.below hb (fun _ hk _ => hk), h.m.below hb h.m.lt, own_live h.o hb⟩

set_option maxRecDepth 100000 in
set_option maxHeartbeats 8000000 in
theorem note_puts_ok (k s : Nat) (A : Option Addr) (c : Nat) (d nm : List UInt8) (w : World) (hok : noteOk ⟨k, s, A, c, d⟩ = true) (hr : Reads w (fun _ => True) A (d.map vb)) (hk : namesL[k]? = some nm)
    (hnk : w.cell? ⟨0, k, none⟩ = some (.string (str nm))) (hnm : w.cell? ⟨0, 6, none⟩ = some (.string cease)) (hit : ItoaAt w s) (hL : LeastAt w) :
    Calls Tryd.prog 17 #[NV.val ⟨k, s, A, c, d⟩] w fun e w' => e = .returned (.bool true) ∧ Below w.heap.size w w' := by
  have hg0 := block_lt_of_cell hnm
  have hin : 1 ≤ k ∧ k ≤ 6 ∧ s ≤ 255 ∧ d.length ≤ 4075 ∧ knownB k = true := by simp [noteOk, knownB] at hok ⊢; omega
  obtain ⟨g1, g6, gs, gd, gk⟩ := hin
  have hnl := (namesCells_get hk).2.2
  have k0 : NK w (w.alloc (.cells (NV.cells ⟨k, s, A, c, d⟩) 68)) w.heap.size (NV.cells ⟨k, s, A, c, d⟩) := ⟨(Below.refl w.heap.size w).alloc (Nat.le_refl _) _, Blk.new w _ _⟩
  have r0 : Reads (w.alloc (.cells (NV.cells ⟨k, s, A, c, d⟩) 68)) (· < w.heap.size) A (d.map vb) := (hr.mono (fun _ hk _ => hk)).alloc _
  have hbody : NV.body ⟨k, s, A, c, d⟩ = UInt8.ofNat k :: UInt8.ofNat s :: d := rfl
  have exk : (UInt8.ofNat k).toNat = k := by rw [UInt8.toNat_ofNat']; omega
  have exs : (UInt8.ofNat s).toNat = s := by rw [UInt8.toNat_ofNat']; omega
  have HP := Lib.hid fun W (hR : Reads W (· < w.heap.size) A (d.map vb)) => put_ok ⟨k, s, A, c, d⟩ W _ hok hR
  have HRC := Lib.hid fun W => refcheck_any ⟨k, s, A, c, d⟩ W (by simp only; omega)
  have HO := Lib.hid hok
  have n6 : ¬ (6000 : Int) < d.length := by omega
  simp only [NV.val, NV.cells, hbody] at *
  obtain ⟨p0, p1, p2, -, -, -⟩ := blk3 k0.blk
  go_enter Tryd.func17, Tryd.ntmps17
  go_wp2_with fail
  refine (HP.out _ r0).mono ?_
  rintro e W1 ⟨v, rfl, o1, b1⟩
  obtain ⟨A1, c1, hv, hc1, _, _, _⟩ := own_reads o1
  subst hv
  have q1 : NQ w (W1.alloc (.cells #[.int .i64 3, .slice A1 (UInt8.ofNat k :: UInt8.ofNat s :: d).length c1] 61)) w.heap.size #[.int .i64 k, .int .i64 s, .slice A d.length c] A d W1.heap.size A1 c1 (UInt8.ofNat k :: UInt8.ofNat s :: d) :=
    ⟨(k0.below b1).alloc _, (r0.below b1 (fun _ hk _ => hk)).alloc _, Blk.new _ _ _, own_live (own_mono o1 (Nat.zero_le _)) ((Below.refl _ _).alloc (Nat.le_refl _) _)⟩
  have hnm1 := (q1.n.bel.cell (p := ⟨0, 6, none⟩) hg0).trans hnm
  clear b1 k0 p0 p1 p2 o1 r0
  obtain ⟨L, hLL⟩ : ∃ L, L = (UInt8.ofNat k :: UInt8.ofNat s :: d).length := ⟨_, rfl⟩
  have HL := Lib.hid (show L = d.length + 2 from hLL)
  have HLL := Lib.hid hLL
  rw [← hLL] at hc1
  simp only [← hLL] at hnm1 ⊢
  clear hLL
  go_wp2_with fail
  refine (note_lives _ hnm1).mono ?_
  rintro e W2 ⟨rfl, b2⟩
  rw [HLL.out] at b2
  have q2 := q1.below b2
  clear q1 b2 hnm1
  generalize W1.heap.size = h1 at q2 ⊢
  obtain ⟨p0, p1, p2, -, -, -⟩ := blk3 q2.n.blk
  go_wp2_with fail
  refine (HRC.out _).mono ?_
  rintro e W3 ⟨rfl, b3⟩
  rw [HO.out]
  have q3 := q2.below b3
  clear q2 b3 p0 p1 p2
  have hr3 : Reads W3 (fun _ => True) A1 ((UInt8.ofNat k :: UInt8.ofNat s :: d).map vb) := own_reads1' q3.o
  obtain ⟨m0, m1, -, -⟩ := blk2 q3.m
  rw [← HLL.out] at m1
  go_wp2_with fail
  refine (get_ok_ A1 c1 (UInt8.ofNat k) (UInt8.ofNat s) d _ _ gd (by rw [exk]; exact gk) hr3 L HL.out hc1).mono ?_
  rintro e W4 ⟨v, rfl, o4, b4⟩
  rw [exk, exs]
  have q4 := q3.below b4
  clear q3 b4 hr3 m0 m1
  obtain ⟨A2, c2, hv2, _, _, _, _⟩ := own_reads o4
  subst hv2
  have o4' : W4.ownsRow 0 5 1 (.slice A2 d.length c2) d.length (d.map vb) := own_mono o4 (Nat.zero_le _)
  have al : Below W4.heap.size W4 (W4.alloc (.cells #[.int .i64 k, .int .i64 s, .slice A2 d.length c2] 68)) := (Below.refl _ _).alloc (Nat.le_refl _) _
  have q5 := q4.below al
  have o5 := own_live o4' al
  have kb := Blk.new W4 68 #[.int .i64 k, .int .i64 s, .slice A2 d.length c2]
  have hs4 : h1 < W4.heap.size := q4.m.lt
  clear q4 o4 o4' al
  go_wp2_with fail
  generalize W4.heap.size = h2 at kb hs4 ⊢
  generalize W4.alloc (.cells #[.int .i64 k, .int .i64 s, .slice A2 d.length c2] 68) = W5 at q5 o5 kb ⊢
  have hB0 : Below W5.heap.size W5 W5.drew := ⟨rfl, rfl, rfl, Nat.le_refl _, fun _ _ => rfl⟩
  have hN := Lib.hid fun (W W' : World) (h : Below W5.heap.size W5 W) (hb : Below W.heap.size W W') => h.trans (hb.mono h.size)
  have HFIN := Lib.hid fun (W : World) (h : Below W5.heap.size W5 W) => q5.n.bel.trans (h.mono q5.n.bel.size)
  obtain ⟨qb, hqb⟩ : ∃ qb, qb = str (UInt8.ofNat k :: UInt8.ofNat s :: d) := ⟨_, rfl⟩
  obtain ⟨qn, hqn⟩ : ∃ qn, qn = (str nm ++ str [32]) ++ str (Lib.itoa s) := ⟨_, rfl⟩
  have HCS := Lib.hid fun (W : World) (h : Below W5.heap.size W5 W) => (show W.cell? ⟨w.heap.size, 0, none⟩ = some (.int .i64 k) ∧ W.cell? ⟨w.heap.size, 1, none⟩ = some (.int .i64 s) ∧ W.cell? ⟨w.heap.size, 2, none⟩ = some (.slice A d.length c) ∧
      W.cell? ⟨h1, 0, none⟩ = some (.int .i64 3) ∧ W.cell? ⟨h1, 1, none⟩ = some (.slice A1 L c1) ∧
      W.cell? ⟨h2, 0, none⟩ = some (.int .i64 k) ∧ W.cell? ⟨h2, 1, none⟩ = some (.int .i64 s) ∧ W.cell? ⟨h2, 2, none⟩ = some (.slice A2 d.length c2) ∧
      (convert 59 9 (.slice A1 L c1)).run Tryd.prog W = .ok (.string qb) W from by
    have q := q5.below h
    obtain ⟨p0, p1, p2, -, -, -⟩ := blk3 q.n.blk
    obtain ⟨m0, m1, -, -⟩ := blk2 q.m
    obtain ⟨k0, k1, k2, -, -, -⟩ := blk3 (kb.below h kb.lt)
    have hcv := run_convert_rd (P := Tryd.prog) 59 9 5 c1 Tryd.underlying59 Tryd.underlying5 Tryd.underlying9 (own_reads1' q.o)
    rw [← HLL.out] at m1 hcv
    rw [hqb]
    exact ⟨p0, p1, p2, m0, m1, k0, k1, k2, hcv⟩)
  have HCK := Lib.hid fun (W : World) (h : Below W5.heap.size W5 W) => (check_any ⟨k, s, A, c, d⟩ W (by simp only; omega)).mono fun e w' (hh : _ ∧ _) => (show e = .returned (.int .i64 0) ∧ Below W.heap.size W w' from ⟨hh.1.trans (by rw [noteE_ok HO.out]), hh.2⟩)
  have HBD := Lib.hid fun (W : World) (h : Below W5.heap.size W5 W) => (refbody_ok ⟨k, s, A, c, d⟩ W _ HO.out (q5.below h).r).mono fun e w' hh => (show ∃ A3 c3, e = .returned (.slice A3 L c3) ∧ Hid (∀ W', Below w'.heap.size w' W' → (convert 59 9 (.slice A3 L c3)).run Tryd.prog W' = .ok (.string qb) W') ∧ Below W.heap.size W w' from by
    obtain ⟨v, he, ho, hb⟩ := hh
    rw [show NV.body ⟨(k : Int), s, A, c, d⟩ = UInt8.ofNat k :: UInt8.ofNat s :: d from rfl] at ho
    have ho0 := own_mono ho (Nat.zero_le _)
    obtain ⟨A3, c3, hv, _⟩ := own_conv ho0
    subst hv
    refine ⟨A3, c3, he.trans (by rw [HLL.out]), Lib.hid fun W' hb' => ?_, hb⟩
    obtain ⟨A3', c3', hv', hcv⟩ := own_conv (own_live ho0 hb')
    injection hv' with e1 e2 e3
    subst e1 e3
    rw [← HLL.out, ← hqb] at hcv
    exact hcv)
  have HFC := Lib.hid fun (W : World) (h : Below W5.heap.size W5 W) => (fcheck_any ⟨3, A1, c1, UInt8.ofNat k :: UInt8.ofNat s :: d⟩ W (by simp only [List.length_cons]; omega) ((hL.below q5.n.bel).below h)).mono fun e w' (hh : _ ∧ _) => (show e = .returned (.int .i64 0) ∧ Below W.heap.size W w' from ⟨hh.1.trans (by rw [MV.err_ok (by simp [MV.ok, fknownB, fitsF, leastZ]; omega)]), hh.2⟩)
  have HSN := Lib.hid fun (W : World) (h : Below W5.heap.size W5 W) => (samenote_any ⟨k, s, A, c, d⟩ ⟨k, s, A2, c2, d⟩ W _ _ (by simp only; omega) (by simp only; omega) (q5.below h).r (own_reads1' (own_live o5 h))).mono fun e w' (hh : _ ∧ _) => (show e = .returned (.bool true) ∧ Below W.heap.size W w' from ⟨hh.1.trans (by simp [sameN, eqB]), hh.2⟩)
  have HNM := Lib.hid fun (W : World) (h : Below W5.heap.size W5 W) => (name_ok k s A c d (str nm) W HO.out (((HFIN.out W h).cell (p := ⟨0, k, none⟩) hg0).trans hnk) (hit.below (HFIN.out W h)) (by show nm.length ≤ 100; omega) (by show (Lib.itoa s).length ≤ 100; rw [Lib.itoa, if_neg (by omega)]; have := dec_len s; simp; omega)).mono fun e w' (hh : _ ∧ _) => (show e = .returned (.string qn) ∧ Below W.heap.size W w' from ⟨hh.1.trans (by rw [hqn]), hh.2⟩)
  have HRN := Lib.hid fun (W : World) (h : Below W5.heap.size W5 W) => (refname_ok k s A c d nm W hk gs).mono fun e w' (hh : _ ∧ _) => (show e = .returned (.string qn) ∧ Below W.heap.size W w' from ⟨hh.1.trans (by rw [hqn]), hh.2⟩)
  simp only [NV.val, NV.cells, MV.val, MV.cells, ← HLL.out] at HCK HBD HFC HSN HNM HRN
  have hqqb : (qb.toList == qb.toList) = true := by simp
  have hqqn : (qn.toList == qn.toList) = true := by simp
  clear q5 o5 kb hqb hqn hs4
  go_region_held3 (fun W => W.cell? ⟨w.heap.size, 0, none⟩ = some (.int .i64 k) ∧ W.cell? ⟨w.heap.size, 1, none⟩ = some (.int .i64 s) ∧ W.cell? ⟨w.heap.size, 2, none⟩ = some (.slice A d.length c) ∧ W.cell? ⟨h1, 0, none⟩ = some (.int .i64 3) ∧ W.cell? ⟨h1, 1, none⟩ = some (.slice A1 L c1) ∧ W.cell? ⟨h2, 0, none⟩ = some (.int .i64 k) ∧ W.cell? ⟨h2, 1, none⟩ = some (.int .i64 s) ∧ W.cell? ⟨h2, 2, none⟩ = some (.slice A2 d.length c2) ∧ (convert 59 9 (.slice A1 L c1)).run Tryd.prog W = .ok (.string qb) W)
    (first | exact HCS.out _ (by assumption) | exact ⟨HCS.out _ (by assumption), hcv.out _ (by assumption)⟩ | go_keep)
    (first | (go_at_call 70; refine (HCK.out _ (by assumption)).mono ?_; rintro e W6 ⟨rfl, hb6⟩; have hB6 := hN.out _ _ (by assumption) hb6) |
      (go_at_call 72; refine (HBD.out _ (by assumption)).mono ?_; rintro e W7 ⟨A3, c3, rfl, hcv, hb7⟩; have hB7 := hN.out _ _ (by assumption) hb7; have hC7 := Below.refl W7.heap.size W7; simp only [held_strong (S := fun W => W.cell? ⟨w.heap.size, 0, none⟩ = some (.int .i64 k) ∧ W.cell? ⟨w.heap.size, 1, none⟩ = some (.int .i64 s) ∧ W.cell? ⟨w.heap.size, 2, none⟩ = some (.slice A d.length c) ∧ W.cell? ⟨h1, 0, none⟩ = some (.int .i64 3) ∧ W.cell? ⟨h1, 1, none⟩ = some (.slice A1 L c1) ∧ W.cell? ⟨h2, 0, none⟩ = some (.int .i64 k) ∧ W.cell? ⟨h2, 1, none⟩ = some (.int .i64 s) ∧ W.cell? ⟨h2, 2, none⟩ = some (.slice A2 d.length c2) ∧ (convert 59 9 (.slice A1 L c1)).run Tryd.prog W = .ok (.string qb) W) (fun W => (W.cell? ⟨w.heap.size, 0, none⟩ = some (.int .i64 k) ∧ W.cell? ⟨w.heap.size, 1, none⟩ = some (.int .i64 s) ∧ W.cell? ⟨w.heap.size, 2, none⟩ = some (.slice A d.length c) ∧ W.cell? ⟨h1, 0, none⟩ = some (.int .i64 3) ∧ W.cell? ⟨h1, 1, none⟩ = some (.slice A1 L c1) ∧ W.cell? ⟨h2, 0, none⟩ = some (.int .i64 k) ∧ W.cell? ⟨h2, 1, none⟩ = some (.int .i64 s) ∧ W.cell? ⟨h2, 2, none⟩ = some (.slice A2 d.length c2) ∧ (convert 59 9 (.slice A1 L c1)).run Tryd.prog W = .ok (.string qb) W) ∧ (convert 59 9 (.slice A3 L c3)).run Tryd.prog W = .ok (.string qb) W) (fun w h => h.1) ‹Shut _›] at *) |
      (go_at_call 34; refine (HFC.out _ (by assumption)).mono ?_; rintro e W8 ⟨rfl, hb8⟩; have hB8 := hN.out _ _ (by assumption) hb8; have hC8 := below_tr hC7 hb8) |
      (go_at_call 38; refine (HSN.out _ (by assumption)).mono ?_; rintro e W9 ⟨rfl, hb9⟩; have hB9 := hN.out _ _ (by assumption) hb9; have hC9 := below_tr hC8 hb9) |
      (go_at_call 71; refine (HNM.out _ (by assumption)).mono ?_; rintro e W10 ⟨rfl, hb10⟩; have hB10 := hN.out _ _ (by assumption) hb10; first | have hC10 := below_tr hC11 hb10 | have hC10 := below_tr hC9 hb10) |
      (go_at_call 73; refine (HRN.out _ (by assumption)).mono ?_; rintro e W11 ⟨rfl, hb11⟩; have hB11 := hN.out _ _ (by assumption) hb11; first | have hC11 := below_tr hC10 hb11 | have hC11 := below_tr hC9 hb11))
  all_goals
    go_wp2_with fail
    go_ret
    exact ⟨rfl, HFIN.out _ (by assumption)⟩
end Go.Proofs.YteokhnkipandbaaDoor
