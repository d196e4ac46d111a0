/-
  The note of any body, or that it is none's: the walk of 'NoteGets'. No condition but that the bytes read as data and the table of names as it is laid.
-/
import Derived.Test.YteokhnkipandbaaDoorNoteL
namespace Go.Proofs.YteokhnkipandbaaDoor
open Go.ChangeShapes Go.WideShapes Go.ChangeAt Go.RowKit

theorem sameN_refl (c s : Int) (A A' : Option Addr) (k k' : Nat) (d : List UInt8) : sameN ⟨c, s, A, k, d⟩ ⟨c, s, A', k', d⟩ = true := by simp [sameN, eqB]

set_option maxRecDepth 10000 in
set_option maxHeartbeats 4000000 in
theorem note_gets_walk (A : Option Addr) (c : Nat) (l : List UInt8) (w : World) (hl : l.length ≤ 9223372036854775807) (hlc : l.length ≤ c) (hr : Reads w (fun _ => True) A (l.map vb)) (hnm : w.cell? ⟨0, 6, none⟩ = some (.string cease)) :
    Calls Tryd.prog 15 #[.slice A l.length c] w fun e w' => e = .returned (.bool true) ∧ Below w.heap.size w w' := by
  have hg0 := block_lt_of_cell hnm
  by_cases h1 : (6000 : Int) < l.length
  case pos =>
    clear hr
    go_enter Tryd.func15, Tryd.ntmps15
    go_wp2_with fail
    refine (note_lives _ hnm).mono ?_
    rintro e w1 ⟨rfl, hb⟩
    go_wp2_with fail
    go_ret
    exact ⟨rfl, hb⟩
  have hr0 := hr.mono (G := (· < w.heap.size)) (fun _ hk _ => hk)
  clear hr
  cases hok : bodyOk l
  case false =>
    have HOK := Lib.hid hok
    clear hok
    go_enter Tryd.func15, Tryd.ntmps15
    go_wp2_with fail
    refine (get_no A c l _ _ hl hr0 HOK.out).mono ?_
    rintro e W1 ⟨rfl, b1⟩
    have g1 := b1.alloc b1.size (.cells noteNone 68)
    have n1 := Blk.new W1 68 noteNone
    have r1 := hr0.below g1 (fun _ _ h => h)
    unfold noteNone at g1 n1 r1 ⊢
    clear b1 hr0
    go_wp2_with fail
    refine (rget_no A c l _ _ hl r1 HOK.out).mono ?_
    rintro e W2 ⟨rfl, b2⟩
    have n2 := (n1.below b2 n1.lt).alloc (.cells noteNone 68)
    have g2 := (g1.trans (b2.mono g1.size))
    have g3 := g2.alloc g2.size (.cells noteNone 68)
    have m2 := Blk.new W2 68 noteNone
    have hnm2 := (g3.cell (p := ⟨0, 6, none⟩) hg0).trans hnm
    unfold noteNone at n2 g3 m2 hnm2 ⊢
    clear n1 g1 r1 g2 b2
    go_wp2_with fail
    refine (note_lives _ hnm2).mono ?_
    rintro e W3 ⟨rfl, b3⟩
    have n3 := n2.below b3 n2.lt
    have m3 := m2.below b3 m2.lt
    have g4 := g3.trans (b3.mono g3.size)
    clear n2 m2 g3 b3 hnm2
    obtain ⟨p0, p1, p2, -, -, -⟩ := blk3 n3
    obtain ⟨q0, q1, q2, -, -, -⟩ := blk3 m3
    clear n3 m3
    go_wp2_with fail
    refine (samenote_any nv0 nv0 _ (fun _ => True) (fun _ => True) (Nat.le_of_ble_eq_true rfl) (Nat.le_of_ble_eq_true rfl) Reads.nil Reads.nil).mono ?_
    rintro e W4 ⟨he, b4⟩
    obtain rfl : e = .returned (.bool true) := he
    have g5 := g4.trans (b4.mono g4.size)
    clear p0 p1 p2 q0 q1 q2
    go_wp2_with fail
    go_ret
    exact ⟨rfl, g5⟩
  obtain ⟨x, y, d, rfl, hk, hd⟩ := body_form hok
  clear hok
  have HL : (x :: y :: d).length = d.length + 2 := rfl
  obtain ⟨L, hL⟩ : ∃ L, L = d.length + 2 := ⟨_, rfl⟩
  rw [HL, ← hL] at hl hlc h1 ⊢
  have HLL := Lib.hid hL
  have HK := Lib.hid hk
  clear HL hL hk
  go_enter Tryd.func15, Tryd.ntmps15
  go_wp2_with fail
  refine (get_ok_ A c x y d _ _ hd HK.out hr0 L HLL.out hlc).mono ?_
  rintro e W1 ⟨v1, rfl, o1, b1⟩
  obtain ⟨A1, c1, hv1, hlc1, _, _, rd1⟩ := own_reads o1
  subst hv1
  have g1 := b1.alloc b1.size (.cells #[.int .i64 x.toNat, .int .i64 y.toNat, .slice A1 d.length c1] 68)
  have n1 := Blk.new W1 68 #[.int .i64 x.toNat, .int .i64 y.toNat, .slice A1 d.length c1]
  have r1 := hr0.below g1 (fun _ _ h => h)
  have rd1 : Reads W1 (· < W1.heap.size) A1 (d.map vb) := rd1.mono (fun _ hk _ => hk)
  have rda := rd1.alloc (.cells #[.int .i64 x.toNat, .int .i64 y.toNat, .slice A1 d.length c1] 68)
  have hs1 : W1.heap.size ≤ (W1.alloc (.cells #[.int .i64 x.toNat, .int .i64 y.toNat, .slice A1 d.length c1] 68)).heap.size := by simp
  clear b1 hr0 o1 rd1
  go_wp2_with fail
  refine (rget_ok_ A c x y d _ _ hd HK.out r1 L HLL.out hlc).mono ?_
  rintro e W2 ⟨v2, rfl, o2, b2⟩
  obtain ⟨A2, c2, hv2, hlc2, _, _, rd2⟩ := own_reads o2
  subst hv2
  have n2 := (n1.below b2 n1.lt).alloc (.cells #[.int .i64 x.toNat, .int .i64 y.toNat, .slice A2 d.length c2] 68)
  have g2 := (g1.trans (b2.mono g1.size))
  have g3 := g2.alloc g2.size (.cells #[.int .i64 x.toNat, .int .i64 y.toNat, .slice A2 d.length c2] 68)
  have m2 := Blk.new W2 68 #[.int .i64 x.toNat, .int .i64 y.toNat, .slice A2 d.length c2]
  have ra2 := (rda.below b2 (fun _ _ hk => by simp at hk ⊢; omega)).alloc (.cells #[.int .i64 x.toNat, .int .i64 y.toNat, .slice A2 d.length c2] 68)
  have rb2 := (rd2.mono (G := (· < W2.heap.size)) (fun _ hk _ => hk)).alloc (.cells #[.int .i64 x.toNat, .int .i64 y.toNat, .slice A2 d.length c2] 68)
  have hnm2 := (g3.cell (p := ⟨0, 6, none⟩) hg0).trans hnm
  have hs2 : W1.heap.size ≤ W2.heap.size := by have := b2.size; omega
  clear n1 g1 r1 g2 b2 o2 rd2 rda
  go_wp2_with fail
  refine (note_lives _ hnm2).mono ?_
  rintro e W3 ⟨rfl, b3⟩
  have n3 := n2.below b3 n2.lt
  have m3 := m2.below b3 m2.lt
  have g4 := g3.trans (b3.mono g3.size)
  have ra3 := ra2.below b3 (fun _ _ hk => by simp at hk ⊢; omega)
  have rb3 := rb2.below b3 (fun _ _ hk => by simp at hk ⊢; omega)
  clear n2 m2 g3 b3 hnm2 ra2 rb2
  obtain ⟨p0, p1, p2, -, -, -⟩ := blk3 n3
  obtain ⟨q0, q1, q2, -, -, -⟩ := blk3 m3
  clear n3 m3
  have hS := Lib.hid (sameN_refl x.toNat y.toNat A1 A2 c1 c2 d)
  go_wp2_with fail
  refine (samenote_any ⟨x.toNat, y.toNat, A1, c1, d⟩ ⟨x.toNat, y.toNat, A2, c2, d⟩ _ _ _ (by simp only; omega) (by simp only; omega) ra3 rb3).mono ?_
  rintro e W4 ⟨rfl, b4⟩
  rw [hS.out]
  have g5 := g4.trans (b4.mono g4.size)
  clear p0 p1 p2 q0 q1 q2
  go_wp2_with fail
  go_ret
  exact ⟨rfl, g5⟩
end Go.Proofs.YteokhnkipandbaaDoor
