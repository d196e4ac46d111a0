/-
  Notes: what must come of every program ('lives'). No condition but that the table of names reads as it is laid.
-/
import Derived.Test.YteokhnkipandbaaDoorNoteN
namespace Go.Proofs.YteokhnkipandbaaDoor
open Go.ChangeShapes Go.WideShapes Go.ChangeAt Go.RowKit

theorem reads_blk {w : World} {g : Nat} {t : TypeId} {cs : Array Value} (h : Blk w g t cs) : Reads w (fun k => k = g) (some ⟨g, 0, none⟩) cs.toList :=
  .inr ⟨g, 0, rfl, rfl, h.lt, fun j u hj => by rw [h.cell]; simpa using hj⟩
theorem own_live {W W' : World} {B n : Nat} {v : Value} {xs : List Value} (h : W.ownsRow B 5 1 v n xs) (hb : Below W.heap.size W W') : W'.ownsRow B 5 1 v n xs := own_only h (S := fun _ => False) (Only.of_below hb) (fun _ _ h => h)

theorem own_reads1' {w : World} {B : Nat} {e : TypeId} {A : Option Addr} {n c : Nat} {xs : List Value} (h : w.ownsRow B e 1 (.slice A n c) n xs) : Reads w (fun _ => True) A xs := by
  obtain ⟨A', c', hv, _, _, _, hr⟩ := own_reads h
  injection hv with e1 e2 e3
  subst e1
  exact hr.mono (fun _ _ _ => trivial)
def cease : ByteArray := str [99, 101, 97, 115, 101]
theorem itoa_two : Lib.itoa 2 = [50] := by simp [Lib.itoa, Lib.decDigits]
theorem cease_two : (cease ++ str [32]) ++ str (Lib.itoa 2) = ⟨#[99, 101, 97, 115, 101, 32, 50]⟩ := by
  rw [show Lib.itoa 2 = [50] by simp [Lib.itoa, Lib.decDigits]]
  rfl
/-- what is told of the note that lives is kept: its block, its data -/
structure LV (w W : World) (h0 : Nat) : Prop where
  bel : Below w.heap.size w W
  n : Blk W (h0 + 1) 68 #[.int .i64 6, .int .i64 2, .slice (some ⟨h0, 0, none⟩) 1 1]
  r : Reads W (· < W.heap.size) (some ⟨h0, 0, none⟩) ([7].map vb)
theorem LV.below {w W W' : World} {h0 : Nat} (h : LV w W h0) (hb : Below W.heap.size W W') : LV w W' h0 :=
  ⟨h.bel.trans (hb.mono h.bel.size), h.n.below hb h.n.lt, (h.r.below hb (fun _ _ h => h)).mono (fun _ hk _ => hk)⟩
theorem LV.alloc {w W : World} {h0 : Nat} (h : LV w W h0) (o : Obj) : LV w (W.alloc o) h0 := h.below ((Below.refl _ _).alloc (Nat.le_refl _) o)

def n67 (h0 : Nat) : NV := ⟨6, 2, some ⟨h0, 0, none⟩, 1, [7]⟩
def nv0 : NV := ⟨0, 0, none, 0, []⟩

structure LW (w W : World) (h0 h1 h2 : Nat) (A1 : Option Addr) (c1 : Nat) (A2 : Option Addr) (c2 : Nat) : Prop where
  l : LV w W h0
  m : Blk W h1 61 #[.int .i64 3, .slice A1 3 c1]
  k : Blk W h2 68 #[.int .i64 6, .int .i64 2, .slice A2 1 c2]
  o1 : W.ownsRow 0 5 1 (.slice A1 3 c1) 3 ([6, 2, 7].map vb)
  o2 : W.ownsRow 0 5 1 (.slice A2 1 c2) 1 ([7].map vb)
theorem LW.below {w W W' : World} {h0 h1 h2 : Nat} {A1 : Option Addr} {c1 : Nat} {A2 : Option Addr} {c2 : Nat} (h : LW w W h0 h1 h2 A1 c1 A2 c2) (hb : Below W.heap.size W W') : LW w W' h0 h1 h2 A1 c1 A2 c2 :=
  ⟨h.l.below hb, h.m.below hb h.m.lt, h.k.below hb h.k.lt, own_live h.o1 hb, own_live h.o2 hb⟩
theorem LW.alloc {w W : World} {h0 h1 h2 : Nat} {A1 : Option Addr} {c1 : Nat} {A2 : Option Addr} {c2 : Nat} (h : LW w W h0 h1 h2 A1 c1 A2 c2) (o : Obj) : LW w (W.alloc o) h0 h1 h2 A1 c1 A2 c2 := h.below ((Below.refl _ _).alloc (Nat.le_refl _) o)

set_option maxRecDepth 10000 in
set_option maxHeartbeats 4000000 in
theorem note_lives (w : World) (hnm : w.cell? ⟨0, 6, none⟩ = some (.string cease)) :
    Calls Tryd.prog 64 #[] w fun e w' => e = .returned (.bool true) ∧ Below w.heap.size w w' := by
  have hg0 := block_lt_of_cell hnm
  have l0 : LV w ((w.alloc (.cells #[.int .u8 7] 5)).alloc (.cells #[.int .i64 6, .int .i64 2, .slice (some ⟨w.heap.size, 0, none⟩) 1 1] 68)) w.heap.size := by
    refine ⟨((Below.refl w.heap.size w).alloc (Nat.le_refl _) _).alloc (by simp) _, ?_, ?_⟩
    · have := Blk.new (w.alloc (.cells #[.int .u8 7] 5)) 68 #[.int .i64 6, .int .i64 2, .slice (some ⟨w.heap.size, 0, none⟩) 1 1]
      rw [World.size_alloc] at this
      exact this
    · have := reads_blk ((Blk.new w 5 #[.int .u8 7]).alloc (.cells #[.int .i64 6, .int .i64 2, .slice (some ⟨w.heap.size, 0, none⟩) 1 1] 68))
      exact this.mono (fun k hk _ => hk)
  go_enter Tryd.func64, Tryd.ntmps64
  go_wp2_with fail
  refine (put_ok (n67 w.heap.size) _ _ (by rfl) (by exact l0.r)).mono ?_
  rintro e W1 ⟨v, rfl, own1, bel1⟩
  have l1 := l0.below bel1
  obtain ⟨A1, c1, hv, hc1, _, _, _⟩ := own_reads own1
  have own1 : W1.ownsRow 0 5 1 v 3 ([6, 2, 7].map vb) := own_mono own1 (Nat.zero_le _)
  have hv : v = .slice A1 3 c1 := hv
  have hc1 : 3 ≤ c1 := hc1
  subst hv
  have l1a := l1.alloc (.cells #[.int .i64 3, .slice A1 3 c1] 61)
  have own1a := own_live own1 ((Below.refl _ W1).alloc (Nat.le_refl _) (.cells #[.int .i64 3, .slice A1 3 c1] 61))
  have m1a := Blk.new W1 61 #[.int .i64 3, .slice A1 3 c1]
  clear l0 l1 bel1 own1
  have hz1 : W1.heap.size < (W1.alloc (.cells #[.int .i64 3, .slice A1 3 c1] 61)).heap.size := by simp
  have m1cells := m1a.cell 1
  simp at m1cells
  obtain ⟨A1', c1', hv', _, _, _, hr1⟩ := own_reads own1a
  injection hv' with e1 e2 e3
  subst e1 e3
  go_wp2_with fail
  refine (get_ok_ A1 c1 6 2 [7] _ _ (by decide) (by rfl) (by exact hr1) 3 rfl hc1).mono ?_
  rintro e W2 ⟨v2, rfl, own2, bel2⟩
  have l2 := l1a.below bel2
  have own1b := own_live own1a bel2
  have m2 := m1a.below bel2 hz1
  obtain ⟨A2, c2, hv2, _, _, _, _⟩ := own_reads own2
  have own2 : W2.ownsRow 0 5 1 v2 1 ([7].map vb) := own_mono own2 (Nat.zero_le _)
  have hv2 : v2 = .slice A2 1 c2 := hv2
  subst hv2
  clear l1a own1a m1a m1cells hr1 bel2 hz1
  generalize W1.heap.size = h1 at m2 ⊢
  have kb : Below W2.heap.size W2 (W2.alloc (.cells #[.int .i64 6, .int .i64 2, .slice A2 1 c2] 68)) := (Below.refl _ W2).alloc (Nat.le_refl _) _
  have l2a := l2.below kb
  have own1c := own_live own1b kb
  have own2a := own_live own2 kb
  have m2a := m2.below kb m2.lt
  have k2a := Blk.new W2 68 #[.int .i64 6, .int .i64 2, .slice A2 1 c2]
  have LA : LW w _ _ _ _ _ _ _ _ := ⟨l2a, m2a, k2a, own1c, own2a⟩
  clear l2 own1b own2 m2 kb l2a m2a k2a own1c own2a
  go_wp2_with fail
  refine (put_no nv0 _ (by decide) (by rfl)).mono ?_
  rintro e W3 ⟨rfl, bel3⟩
  have LB := (LA.below bel3).alloc (.cells msgNone 61)
  clear LA bel3
  have k3 := Blk.new (W3.alloc (.cells msgNone 61)) 5 #[.int .u8 7, .int .u8 0]
  have r3 := reads_blk k3
  have LC := LB.alloc (.cells #[.int .u8 7, .int .u8 0] 5)
  unfold msgNone at k3 r3 LC ⊢
  clear LB k3
  rw [World.size_alloc] at r3
  go_wp2_with fail
  refine (get_no (some ⟨W3.heap.size + 1, 0, none⟩) 2 [7, 0] _ _ (by decide) (by exact r3) (by rfl)).mono ?_
  rintro e W4 ⟨rfl, bel4⟩
  have LD := (LC.below bel4).alloc (.cells noteNone 68)
  unfold noteNone at LD ⊢
  clear LC bel4 r3
  have mc0 := LD.m.cell 0
  have mc1 := LD.m.cell 1
  simp at mc0 mc1
  obtain ⟨nc0, nc1, nc2, -, -, -⟩ := blk3 LD.l.n
  obtain ⟨kc0, kc1, kc2, -, -, -⟩ := blk3 LD.k
  have s1 : (convert 59 9 (.slice A1 3 c1)).run Tryd.prog _ = .ok (.string ⟨#[6, 2, 7]⟩) _ := run_convert_rd (P := Tryd.prog) (l := [6, 2, 7]) 59 9 5 c1 Tryd.underlying59 Tryd.underlying5 Tryd.underlying9 (own_reads1' LD.o1)
  go_wp2_with fail
  refine (same_any (n67 w.heap.size) ⟨6, 2, A2, c2, [7]⟩ _ _ _ (Nat.le_of_ble_eq_true rfl) (Nat.le_of_ble_eq_true rfl) (by exact LD.l.r) (own_reads1' LD.o2)).mono ?_
  rintro e W5 ⟨he, bel5⟩
  obtain rfl : e = .returned (.bool true) := he
  have LE := LD.below bel5
  clear mc0 mc1 nc0 nc1 nc2 kc0 kc1 kc2 s1 LD bel5
  obtain ⟨nc0, nc1, nc2, -, -, -⟩ := blk3 LE.l.n
  have hnm5 := (LE.l.bel.cell (p := ⟨0, 6, none⟩) hg0).trans hnm
  go_wp2_with fail
  refine (name_ok 6 2 _ 1 [7] cease _ (by rfl) hnm5 (itoaAt_small _ 2 (by omega) (by omega)) (by decide) (by rw [itoa_two]; decide)).mono ?_
  rintro e W6 ⟨he, bel6⟩
  rw [cease_two] at he
  subst he
  have LF := LE.below bel6
  clear nc0 nc1 nc2 LE bel6 hnm5
  go_wp2_with fail
  refine (name_no nv0 _ (by decide) (by rfl)).mono ?_
  rintro e W7 ⟨he, bel7⟩
  obtain rfl : e = .returned (.string ⟨#[]⟩) := he
  have LG := LF.below bel7
  clear LF bel7
  obtain ⟨nc0, nc1, nc2, -, -, -⟩ := blk3 LG.l.n
  go_wp2_with fail
  refine (check_any (n67 w.heap.size) _ (Nat.le_of_ble_eq_true rfl)).mono ?_
  rintro e W8 ⟨he, bel8⟩
  obtain rfl : e = .returned (.int .i64 0) := he
  have LH := LG.below bel8
  clear nc0 nc1 nc2 LG bel8
  obtain ⟨nc0, nc1, nc2, -, -, -⟩ := blk3 LH.l.n
  go_wp2_with fail
  refine (same_any (n67 w.heap.size) nv0 _ _ (fun _ => True) (Nat.le_of_ble_eq_true rfl) (Nat.le_of_ble_eq_true rfl) (by exact LH.l.r) Reads.nil).mono ?_
  rintro e W9 ⟨he, bel9⟩
  obtain rfl : e = .returned (.bool false) := he
  have LI := LH.below bel9
  clear nc0 nc1 nc2 LH bel9
  go_wp2_with fail
  go_ret
  exact ⟨rfl, LI.l.bel⟩
end Go.Proofs.YteokhnkipandbaaDoor
