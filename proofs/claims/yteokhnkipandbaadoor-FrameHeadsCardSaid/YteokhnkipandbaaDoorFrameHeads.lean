/-
  What any bytes are as a head, or what is wrong with it: the walk of 'FrameHeads'. No condition but that the bytes read as data and the table of least lengths as it is laid.
-/
import Derived.Test.YteokhnkipandbaaDoorFrameM
import Derived.Test.YteokhnkipandbaaDoorFrameG
namespace Go.Proofs.YteokhnkipandbaaDoor
open Go.ChangeShapes Go.WideShapes Go.ChangeAt Go.RowKit

theorem sameN_same (c s : Int) (A A' : Option Addr) (k k' : Nat) (d : List UInt8) : sameN ⟨c, s, A, k, d⟩ ⟨c, s, A', k', d⟩ = true := by simp [sameN, eqB]

set_option maxRecDepth 10000 in
set_option maxHeartbeats 4000000 in
theorem frame_heads_walk (A : Option Addr) (c : Nat) (l : List UInt8) (w : World) (hl : l.length ≤ 9223372036854775807) (hlc : l.length ≤ c) (hr : Reads w (fun _ => True) A (l.map vb)) (hL : LeastAt w) :
    Calls Tryd.prog 7 #[.slice A l.length c] w fun e w' => e = .returned (.bool true) ∧ Below w.heap.size w w' := by
  by_cases h1 : (6000 : Int) < l.length
  case pos =>
    clear hr
    go_enter Tryd.func7, Tryd.ntmps7
    go_wp2_with fail
    refine (frame_lives _ hL).mono ?_
    rintro e w1 ⟨rfl, hb⟩
    go_wp2_with fail
    go_ret
    exact ⟨rfl, hb⟩
  have hr0 := hr.mono (G := (· < w.heap.size)) (fun _ hk _ => hk)
  have hd3 : (headR l).d.length ≤ 2 := by
    unfold headR headOf
    split
    · simp
    · split
      · simp
      · split
        · split <;> simp
        · simp
  clear hr
  have H1 := Lib.hid fun (_ : Unit) => head_any A c l _ w hlc hl hr0 hL
  have H2 := Lib.hid fun (W : World) (hb : Below w.heap.size w W) => rhead_any A c l _ W hlc hl (hr0.below hb (fun _ _ h => h))
  generalize headR l = r at *
  obtain ⟨k, n, code, sub, d⟩ := r
  simp only [HR.val] at H1 H2 hd3
  go_enter Tryd.func7, Tryd.ntmps7
  go_wp2_with fail
  refine (H1.out ()).mono ?_
  rintro e W1 ⟨v1, rfl, p1⟩
  obtain ⟨A1, c1, hv1, _, _, _, rd1⟩ := own_reads p1.own
  subst hv1
  have al1 := below_a1 W1 (.cells #[.int .i64 code, .int .i64 sub, .slice A1 d.length c1] 68)
  have B1 := p1.bel.trans (al1.mono p1.bel.size)
  have n1 := Blk.new W1 68 #[.int .i64 code, .int .i64 sub, .slice A1 d.length c1]
  have rd1 : Reads (W1.alloc (.cells #[.int .i64 code, .int .i64 sub, .slice A1 d.length c1] 68)) (· < (W1.alloc (.cells #[.int .i64 code, .int .i64 sub, .slice A1 d.length c1] 68)).heap.size) A1 (d.map vb) := (rd1.alloc _).mono (fun _ hk _ => hk)
  clear p1 al1 H1
  go_wp2_with fail
  refine (H2.out _ B1).mono ?_
  rintro e W2 ⟨v2, rfl, p2⟩
  obtain ⟨A2, c2, hv2, _, _, _, rd2⟩ := own_reads p2.own
  subst hv2
  have al2 := below_a1 W2 (.cells #[.int .i64 code, .int .i64 sub, .slice A2 d.length c2] 68)
  have b12 := p2.bel.trans (al2.mono p2.bel.size)
  have B2 := B1.trans (b12.mono B1.size)
  have n2 := n1.below b12 n1.lt
  have m2 := Blk.new W2 68 #[.int .i64 code, .int .i64 sub, .slice A2 d.length c2]
  have ra2 := (rd1.below b12 (fun _ _ h => h)).mono (G := fun b => b < (W2.alloc (.cells #[.int .i64 code, .int .i64 sub, .slice A2 d.length c2] 68)).heap.size) (fun _ hk _ => hk)
  have rb2 : Reads (W2.alloc (.cells #[.int .i64 code, .int .i64 sub, .slice A2 d.length c2] 68)) (fun b => b < (W2.alloc (.cells #[.int .i64 code, .int .i64 sub, .slice A2 d.length c2] 68)).heap.size) A2 (d.map vb) := (rd2.alloc _).mono (fun _ hk _ => hk)
  clear p2 al2 b12 n1 rd1 rd2 B1
  go_wp2_with fail
  refine (frame_lives _ (hL.below B2)).mono ?_
  rintro e W3 ⟨rfl, b3⟩
  have B3 := B2.trans (b3.mono B2.size)
  have n3 := n2.below b3 n2.lt
  have m3 := m2.below b3 m2.lt
  have ra3 := ra2.below b3 (fun _ _ h => h)
  have rb3 := rb2.below b3 (fun _ _ h => h)
  clear B2 b3 n2 m2 ra2 rb2
  obtain ⟨p0, p1, p2, -, -, -⟩ := blk3 n3
  obtain ⟨q0, q1, q2, -, -, -⟩ := blk3 m3
  have hkk : (k == k) = true := by simp
  have hnn : (n == n) = true := by simp
  have HS := Lib.hid fun (_ : Unit) => sameN_same code sub A1 A2 c1 c2 d
  go_wp2_with fail
  refine (samenote_any ⟨code, sub, A1, c1, d⟩ ⟨code, sub, A2, c2, d⟩ _ _ _ (by simp only; omega) (by simp only; omega) ra3 rb3).mono ?_
  rintro e W4 ⟨rfl, b4⟩
  rw [HS.out ()]
  have B4 := B3.trans (b4.mono B3.size)
  clear p0 p1 p2 q0 q1 q2
  go_wp2_with fail
  go_ret
  exact ⟨rfl, B4⟩
end Go.Proofs.YteokhnkipandbaaDoor
