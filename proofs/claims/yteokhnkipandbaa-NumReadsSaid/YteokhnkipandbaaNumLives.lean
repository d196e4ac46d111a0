/-
  'lives' of the statements on numbers: returns true in every world, and turns nothing that was there. No condition.
-/
import Derived.Test.YteokhnkipandbaaNumNum
import Derived.Test.YteokhnkipandbaaNumPart
namespace Go.Proofs.Yteokhnkipandbaa
open Go.ChangeShapes Go.WideShapes Go.ChangeAt Go.RowKit

theorem reads_blk {w : World} {g : Nat} {t : TypeId} {cs : Array Value} (h : Blk w g t cs) : Reads w (fun k => k = g) (some ⟨g, 0, none⟩) cs.toList :=
  .inr ⟨g, 0, rfl, rfl, h.lt, fun j u hj => by rw [h.cell]; simpa using hj⟩
theorem own_live {W W' : World} {B n : Nat} {v : Value} {xs : List Value} (h : W.ownsRow B 5 1 v n xs) (hb : Below W.heap.size W W') : W'.ownsRow B 5 1 v n xs := own_only h (S := fun _ => False) (Only.of_below hb) (fun _ _ h => h)

set_option maxRecDepth 10000 in
set_option maxHeartbeats 2000000 in
theorem num_lives (w : World) : Calls Try.prog 18 #[] w fun e w' => e = .returned (.bool true) ∧ Below w.heap.size w w' := by
  go_enter Try.func18, Try.ntmps18
  go_wp2_with fail
  refine (put_ok2 258 _ (by omega)).mono ?_
  rintro e W1 ⟨v, rfl, own1, bel1⟩
  obtain ⟨A1, c1, hv, _, rA⟩ := own_rd own1 (be_length 2 258)
  subst hv
  have rA : Reads W1 (· < W1.heap.size) A1 ([1, 2].map vb) := rA.mono (fun _ hk _ => hk)
  go_wp2_with fail
  refine (put_nofit 256 1 _ (by omega) (by omega) (by right; decide)).mono ?_
  rintro e w' ⟨rfl, rfl⟩
  have k0 := Blk.new W1 5 #[.int .u8 1, .int .u8 2]
  have r0 := reads_blk k0
  go_wp2_with fail
  refine (get_ok (some ⟨W1.heap.size, 0, none⟩) 2 [1, 2] _ _ (by simp) (by simp) r0).mono ?_
  rintro e w' ⟨rfl, rfl⟩
  have belA : Below w.heap.size w (W1.alloc (.cells #[.int .u8 1, .int .u8 2] 5)) := bel1.alloc bel1.size _
  have rB := rA.alloc (.cells #[.int .u8 1, .int .u8 2] 5)
  have lt2 : W1.heap.size < (W1.alloc (.cells #[.int .u8 1, .int .u8 2] 5)).heap.size := by simp
  clear k0 r0 own1 bel1 rA
  generalize W1.alloc (.cells #[.int .u8 1, .int .u8 2] 5) = W2 at belA rB lt2 ⊢
  generalize W1.heap.size = n1 at rB lt2 ⊢
  rw [show ofBe [1, 2] = 258 from rfl]
  have k0 := Blk.new W2 5 #[.int .u8 1, .int .u8 2, .int .u8 3]
  have r0 := reads_blk k0
  go_wp2_with fail
  refine (from_any (some ⟨W2.heap.size, 0, none⟩) 3 [1, 2, 3] _ _ (by simp) r0).mono ?_
  rintro e W3 ⟨g, G, rfl, rd3, hg, hG, bel3⟩
  have rC := (rB.alloc (.cells #[.int .u8 1, .int .u8 2, .int .u8 3] 5)).below bel3 (fun k _ hk => by simp; omega)
  have belB : Below w.heap.size w W3 := (belA.alloc belA.size _).trans (bel3.mono (by have := belA.size; simp; omega))
  have lo3 : W2.heap.size < g := by simp at hg; omega
  clear k0 r0 rB bel3 hg hG
  go_wp2_with fail
  refine (num_ok rd3 1 (by omega) (by omega) (by simp) (by simp)).mono ?_
  rintro e W4 ⟨he, rd4, o4⟩
  obtain rfl : e = .returned (.int .i64 1) := he
  have rd4 : RD W4 G 109 g [2, 3] false := rd4
  have rD := rC.only o4 (fun k _ hk e => by omega)
  have belC := belB.trans (o4.below belB.size (fun k hk => by have := belA.size; omega))
  clear rC o4 belB rd3
  go_wp2_with fail
  refine (bytes_ok rd4 2 (by simp) (by simp)).mono ?_
  rintro e W5 ⟨v, rfl, own5, rd5, o5⟩
  have own5 : W5.ownsRow W4.heap.size 5 1 v 2 ([2, 3].map vb) := own5
  have rd5 : RD W5 G 109 g [] false := rd5
  obtain ⟨A5, c5, hv, _, rY⟩ := own_rd own5 rfl
  subst hv
  have rE := rD.only o5 (fun k _ hk e => by omega)
  have belD := belC.trans (o5.below belC.size (fun k hk => by have := belA.size; omega))
  have lt4 := rd4.blt
  clear rD o5 belC own5 rd4
  go_wp2_with fail
  refine (num_no rd5 1 (by simp [numOk, rdOk])).mono ?_
  rintro e W6 ⟨rfl, rd6, o6⟩
  have rF := rE.only o6 (fun k _ hk e => by omega)
  have rZ := rY.only o6 (fun k _ hk e => by omega)
  have belE := belD.trans (o6.below belD.size (fun k hk => by have := belA.size; omega))
  clear rE o6 belD rY rd5
  have cv1 : (convert 22 9 (.slice A1 2 c1)).run Try.prog W6 = .ok (.string ⟨#[1, 2]⟩) W6 := run_convert_rd 22 9 5 c1 Try.underlying22 Try.underlying5 Try.underlying9 rF
  have cv2 : (convert 22 9 (.slice A5 2 c5)).run Try.prog W6 = .ok (.string ⟨#[2, 3]⟩) W6 := run_convert_rd 22 9 5 c5 Try.underlying22 Try.underlying5 Try.underlying9 rZ
  clear rF rZ lt4 lt2 lo3 belA
  go_wp2_with fail
  refine (bad_any rd6).mono ?_
  rintro e w' ⟨rfl, rfl⟩
  go_wp2_with fail
  refine (mask_any 8 _).mono ?_
  rintro e w' ⟨he, rfl⟩
  obtain rfl : e = .returned (.int .u32 4278190080) := he
  go_wp2_with fail
  refine (add_any _ _ _).mono ?_
  rintro e w' ⟨he, rfl⟩
  obtain rfl : e = .returned (.int .i64 9007199254740991) := he
  go_wp2_with fail
  refine (sub_any _ _ _).mono ?_
  rintro e w' ⟨he, rfl⟩
  obtain rfl : e = .returned (.int .i64 0) := he
  go_wp2_with fail
  refine (times_any _ _ _).mono ?_
  rintro e w' ⟨he, rfl⟩
  obtain rfl : e = .returned (.int .i64 42) := he
  go_wp2_with fail
  refine (part_small 4503599627370496 6 3 4503599627370496 6 rfl rfl (by omega) _).mono ?_
  rintro e w' ⟨he, n, rfl⟩
  obtain rfl : e = .returned (.int .i64 9007199254740991) := he
  go_wp2_with fail
  refine (part_small 10 3 4 10 3 rfl rfl (by omega) _).mono ?_
  rintro e w' ⟨he, m, rfl⟩
  obtain rfl : e = .returned (.int .i64 7) := he
  go_wp2_with fail
  refine (near_any _ _).mono ?_
  rintro e w' ⟨he, rfl⟩
  obtain rfl : e = .returned (.int .i64 0) := he
  go_wp2_with fail
  go_ret
  exact ⟨rfl, below_drewN' belE _⟩
end Go.Proofs.Yteokhnkipandbaa
