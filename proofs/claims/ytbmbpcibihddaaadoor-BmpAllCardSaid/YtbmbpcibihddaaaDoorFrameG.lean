/-
  Heads, as the document tells them. No condition but that bytes read as data.
-/
import Derived.Test.YtbmbpcibihddaaaDoorFrameE
namespace Go.Proofs.YtbmbpcibihddaaaDoor
open Go.ChangeShapes Go.WideShapes Go.ChangeAt Go.RowKit

theorem rhead_short (A : Option Addr) (c L : Nat) (w : World) (hL : L < 19) :
    Calls Tryd.prog 58 #[.slice A L c] w fun e w' => ∃ v, e = .returned (HR.val ⟨0, 0, 0, 0, []⟩ v) ∧ HeadPost ⟨0, 0, 0, 0, []⟩ w v w' := by
  have hB1 := Blk.new w 37 #[.int .i64 0, .int .i64 0, .slice none 0 0]
  have hb1 := (Below.refl w.heap.size w).alloc (Nat.le_refl _) (.cells #[.int .i64 0, .int .i64 0, .slice none 0 0] 37)
  have hM3 := hB1.setRow_ #[.int .i64 0, .int .i64 0, .slice none 0 0]
  have hb3 := below_setRow hb1 (g := w.heap.size) (Nat.le_refl _) #[.int .i64 0, .int .i64 0, .slice none 0 0]
  have k1 : (L : Int) < 19 := by omega
  have HP : HeadPost ⟨0, 0, 0, 0, []⟩ w (.slice none 0 0) _ := ⟨own_nil _ _ _ _, hb3⟩
  go_enter Tryd.func58, Tryd.ntmps58
  go_wp2_with (refine wpList_store_blk (by rfl) 37 (.tmp 4) (.tmp 11) rfl w.heap.size #[.int .i64 0, .int .i64 0, .slice none 0 0] (by rfl) (by rfl) 37 _ hB1 (by kernel_rfl) (by rfl) (note_one _ _ _ _ _) ?_)
  refine bodyPost_ret (results_tmp_tmp_cell rfl _ _ _ 37 #[.int .i64 0, .int .i64 0, .slice none 0 0] (0, 0) _ (by simp [Act.put]) hM3 Tryd.underlying37 rfl (by kernel_rfl)) rfl ?_
  exact ⟨.slice none 0 0, by simp [Act.put, HR.val], HP⟩

theorem HeadPost.drew2 {r : HR} {w X : World} {v : Value} (h : HeadPost r w v X) : HeadPost r w v X.drew.drew := ⟨h.own, h.bel.drew.drew⟩

section
variable (b0 off c L : Nat) (m : List UInt8) (a b k : UInt8) (F : Nat → Prop) (w : World) (hm : m.length = 16) (hb0 : b0 < w.heap.size) (hrm : Reads w F (some ⟨b0, off, none⟩) (m.map vb)) (hrab : Reads w F (some ⟨b0, off + 16, none⟩) ([a, b].map vb))
  (h16 : w.cell? ⟨b0, off + 16, none⟩ = some (.int .u8 a.toNat)) (h17 : w.cell? ⟨b0, off + 17, none⟩ = some (.int .u8 b.toNat)) (h18 : w.cell? ⟨b0, off + 18, none⟩ = some (.int .u8 k.toNat)) (hL : 19 ≤ L) (hLc : L ≤ c) (hLm : L ≤ 9223372036854775807)

include hm hb0 hrm hrab h16 h17 h18 hL hLc hLm in
set_option maxRecDepth 10000 in
set_option maxHeartbeats 4000000 in
theorem rhead_rest : Calls Tryd.prog 58 #[.slice (some ⟨b0, off, none⟩) L c] w fun e w' => ∃ v, e = .returned ((headOf m a b k).val v) ∧ HeadPost (headOf m a b k) w v w' := by
  obtain ⟨w1, hw1⟩ : ∃ w1, w1 = w.alloc (.cells #[.int .i64 0, .int .i64 0, .slice none 0 0] 37) := ⟨_, rfl⟩
  have hs1 : w1.heap.size = w.heap.size + 1 := by rw [hw1]; simp
  have hB1 : Blk w1 w.heap.size 37 #[.int .i64 0, .int .i64 0, .slice none 0 0] := by rw [hw1]; exact Blk.new w _ _
  have hb1 : Below w.heap.size w w1 := by rw [hw1]; exact below_a1 w _
  have hrm1 : Reads w1 F (some ⟨b0, off, none⟩) (m.map vb) := by rw [hw1]; exact hrm.alloc _
  have hrab1 : Reads w1 F (some ⟨b0, off + 16, none⟩) ([a, b].map vb) := by rw [hw1]; exact hrab.alloc _
  have hA16 := (hb1.cell (p := ⟨b0, off + 16, none⟩) hb0).trans h16
  have hA17 := (hb1.cell (p := ⟨b0, off + 17, none⟩) hb0).trans h17
  have hA18 := (hb1.cell (p := ⟨b0, off + 18, none⟩) hb0).trans h18
  have HW := Lib.hid hw1
  have HS := Lib.hid hs1
  have k1 : ¬ (L : Int) < 19 := by omega
  have k4 : (18 : Int) < (L : Int) := by omega
  have k5 : 18 < L := by omega
  have k6 : (18 : Int) ≤ (c : Int) := by omega
  have k7 : 18 ≤ c := by omega
  have k8 : ¬ c = 16 := by omega
  have k9 : (16 : Int) < (L : Int) := by omega
  have k10 : 16 < L := by omega
  have k11 : (17 : Int) < (L : Int) := by omega
  have k12 : 17 < L := by omega
  have hkx := k.toNat_lt
  have e1 : IntKind.i64.wrap (k.toNat : Int) = (k.toNat : Int) := IntWalk.i64_in _ (by omega)
  clear hw1 hs1 hrm hrab h16 h17 h18
  go_enter Tryd.func58, Tryd.ntmps58
  go_wp2_with fail
  rw [← HW.out]
  go_loopw [5] (fun i wr => ∃ j : Nat, j ≤ 16 ∧ i = .int .i64 j ∧ wr = w1 ∧ badMark (m.take j) = false) (fun i _ => 16 - (intOf i).toNat)
  case atStart => exact ⟨0, by omega, rfl, rfl, rfl⟩
  case round =>
    obtain ⟨j, hj, rfl, rfl, hbad⟩ := hrel
    by_cases hj16 : j = 16
    case neg =>
      have j1 : (j : Int) < 16 := by omega
      have j2 : (j : Int) < (L : Int) := by omega
      have j3 : j < L := by omega
      have hjm : j < m.length := by omega
      obtain ⟨b1, off1, e2, _, _, hcj⟩ := hrm1.at_ (k := j) (by simpa using hjm)
      injection e2 with e2
      injection e2 with e2 e3
      subst e2 e3
      simp only [List.getElem_map, vb] at hcj
      by_cases he : m[j] = 255
      · have HT := Lib.hid (bad_step hjm he hbad)
        have h255 : (m[j].toNat : Int) = 255 := by rw [he]; rfl
        rw [h255] at hcj
        clear hbad he h255 hrm1 hrab1 hA16 hA17 hA18
        go_wp2_with fail
        exact ⟨⟨j + 1, by omega, by simp, by first | rfl | trivial, HT.out⟩, by simp [intOf]; omega⟩
      · have HB := Lib.hid (show headOf m a b k = ⟨0, 0, 1, 1, []⟩ from if_pos (bad_at hjm he))
        have hne : ¬ (m[j].toNat : Int) = 255 := fun h => he (UInt8.toNat_inj.1 (show m[j].toNat = 255 by omega))
        clear hbad hrm1 he hrab1 hA16 hA17 hA18
        generalize m[j].toNat = x at hcj hne
        have hM3 := hB1.setRow_ #[.int .i64 1, .int .i64 1, .slice none 0 0]
        have HP : Hid (HeadPost ⟨0, 0, 1, 1, []⟩ w (.slice none 0 0) _) := Lib.hid ⟨own_nil _ _ _ _, below_setRow hb1 (g := w.heap.size) (Nat.le_refl _) #[.int .i64 1, .int .i64 1, .slice none 0 0]⟩
        go_wp2_with (refine wpList_store_blk (by rfl) 37 (.tmp 4) (.tmp 21) rfl w.heap.size #[.int .i64 1, .int .i64 1, .slice none 0 0] (by rfl) (by rfl) 37 _ hB1 (by kernel_rfl) (by rfl) (note_one _ _ _ _ _) ?_)
        refine bodyPost_ret (results_tmp_tmp_cell rfl _ _ _ 37 #[.int .i64 1, .int .i64 1, .slice none 0 0] (0, 0) _ (by simp) hM3 Tryd.underlying37 rfl (by kernel_rfl)) rfl ?_
        rw [HB.out]
        exact ⟨.slice none 0 0, by simp [HR.val], HP.out⟩
    case pos =>
      subst hj16
      have hb16 : badMark m = false := by rw [← hbad, List.take_of_length_le (by omega)]
      have hO : headOf m a b k = if fknownB k.toNat then if fitsF k.toNat (ofBe [a, b] : Nat) then ⟨k.toNat, (ofBe [a, b] : Nat), 0, 0, []⟩ else ⟨0, 0, 1, 2, [a, b]⟩ else ⟨0, 0, 1, 3, [k]⟩ := by
        unfold headOf
        rw [if_neg (by simp [hb16])]
      clear hbad hb16 hrm1 hm
      have hget := rget_ok (some ⟨b0, off + 16, none⟩) (c - 16) [a, b] F wr.drew (by simp) hrab1
      have HG := Lib.hid hget
      have HLE := Lib.hid fun W => least_fn k.toNat W
      clear hget hrab1
      cases hkn : fknownB k.toNat
      case false =>
        have HB := Lib.hid (show headOf m a b k = ⟨0, 0, 1, 3, [k]⟩ from hO.trans (by rw [hkn]; rfl))
        have H0 := Lib.hid (least_zero hkn)
        have hM2 := hB1.alloc (.cells #[.int .u8 k.toNat] 5)
        obtain ⟨hM3, ho3⟩ := set3 hM2 (.int .i64 1) (.int .i64 3) (.slice (some ⟨wr.heap.size, 0, none⟩) 1 1)
        obtain ⟨m0, m1, m2, f0, f1, f2⟩ := blk3 hM2
        have hgw : w.heap.size < wr.heap.size := by rw [HS.out]; omega
        have hD := (Blk.new wr 5 #[.int .u8 k.toNat]).only ho3 (by omega)
        have HP : Hid (HeadPost ⟨0, 0, 1, 3, [k]⟩ w (.slice (some ⟨wr.heap.size, 0, none⟩) 1 1) _) := Lib.hid ⟨full_own (xs := [k].map vb) hD (by omega) rfl (by unfold maxLen; simp), (hb1.trans ((below_a1 wr (.cells #[.int .u8 k.toNat] 5)).mono hb1.size)).trans (ho3.below (by simp; omega) (fun i hi => by omega))⟩
        have HM := Lib.hid hM3
        have hne1 : ¬ b0 = w.heap.size := by omega
        have hne2 : ¬ w.heap.size = b0 := by omega
        clear hO hkn hA16 hA17 hM3 ho3 hD hM2 hgw
        generalize ofBe [a, b] = ab at *
        go_wp2_with fail
        go_region_held3 (fun W => W.cell? ⟨b0, off + 18, none⟩ = some (.int .u8 k.toNat)) (go_keep)
          ((go_at_call 55; refine (HG.out).mono ?_; rintro e w' ⟨rfl, rfl⟩))
        go_wp2_with fail
        refine (HLE.out _).mono ?_
        rintro e w' ⟨rfl, rfl⟩
        rw [H0.out]
        go_wp2_with fail
        go_region_held3 (fun W => W.cell? ⟨b0, off + 18, none⟩ = some (.int .u8 k.toNat)) (go_keep) (fail)
        go_wp2_with fail
        refine bodyPost_ret (results_tmp_tmp_cell rfl _ _ _ 37 #[.int .i64 1, .int .i64 3, .slice (some ⟨wr.heap.size, 0, none⟩) 1 1] (0, 0) _ (by simp) HM.out Tryd.underlying37 rfl (by kernel_rfl)) rfl ?_
        rw [HB.out]
        exact ⟨.slice (some ⟨wr.heap.size, 0, none⟩) 1 1, by simp [HR.val], HP.out.drew2⟩
      have hp : (0 : Int) < leastZ k.toNat := least_pos hkn
      have hcase : (¬ ((ofBe [a, b] : Nat) : Int) < leastZ k.toNat ∧ ¬ (4096 : Int) < (ofBe [a, b] : Nat) ∧ (¬ (k.toNat : Int) = 4 ∨ k.toNat = 4 ∧ ((ofBe [a, b] : Nat) : Int) = 19) ∧ fitsF k.toNat (ofBe [a, b] : Nat) = true) ∨
          (((ofBe [a, b] : Nat) : Int) < leastZ k.toNat ∧ fitsF k.toNat (ofBe [a, b] : Nat) = false) ∨ (¬ ((ofBe [a, b] : Nat) : Int) < leastZ k.toNat ∧ (4096 : Int) < (ofBe [a, b] : Nat) ∧ fitsF k.toNat (ofBe [a, b] : Nat) = false) ∨
          (¬ ((ofBe [a, b] : Nat) : Int) < leastZ k.toNat ∧ ¬ (4096 : Int) < (ofBe [a, b] : Nat) ∧ k.toNat = 4 ∧ ¬ ((ofBe [a, b] : Nat) : Int) = 19 ∧ fitsF k.toNat (ofBe [a, b] : Nat) = false) := by
        generalize ofBe [a, b] = ab
        by_cases h1 : (ab : Int) < leastZ k.toNat
        · exact .inr (.inl ⟨h1, by simp [fitsF]; omega⟩)
        · by_cases h2 : (4096 : Int) < ab
          · exact .inr (.inr (.inl ⟨h1, h2, by simp [fitsF]; omega⟩))
          · by_cases h3 : k.toNat = 4
            · by_cases h4 : (ab : Int) = 19
              · exact .inl ⟨h1, h2, .inr ⟨h3, h4⟩, by simp [fitsF]; omega⟩
              · exact .inr (.inr (.inr ⟨h1, h2, h3, h4, by simp [fitsF]; omega⟩))
            · exact .inl ⟨h1, h2, .inl (by omega), by simp [fitsF]; omega⟩
      rw [hkn] at hO
      have hq : fitsF k.toNat (ofBe [a, b] : Nat) = true ∨ fitsF k.toNat (ofBe [a, b] : Nat) = false := by cases fitsF k.toNat (ofBe [a, b] : Nat) <;> simp
      rcases hq with hq | hq
      · have HB := Lib.hid (show headOf m a b k = ⟨k.toNat, (ofBe [a, b] : Nat), 0, 0, []⟩ from hO.trans (by rw [hq]; rfl))
        rw [hq] at hcase
        have hc : ¬ ((ofBe [a, b] : Nat) : Int) < leastZ k.toNat ∧ ¬ (4096 : Int) < (ofBe [a, b] : Nat) ∧ (¬ (k.toNat : Int) = 4 ∨ k.toNat = 4 ∧ ((ofBe [a, b] : Nat) : Int) = 19) := by
          rcases hcase with ⟨h1, h2, h3, _⟩ | ⟨_, h⟩ | ⟨_, _, h⟩ | ⟨_, _, _, _, h⟩
          · exact ⟨h1, h2, h3⟩
          all_goals cases h
        clear hcase hO hq hkn hA16 hA17
        generalize ofBe [a, b] = ab at *
        generalize leastZ k.toNat = z at *
        generalize k.toNat = kn at *
        have hM3 := (hB1.drew).setRow_ #[.int .i64 0, .int .i64 0, .slice none 0 0]
        have HP : Hid (HeadPost ⟨(kn : Int), (ab : Int), 0, 0, []⟩ w (.slice none 0 0) _) := Lib.hid ⟨own_nil _ _ _ _, below_setRow (hb1.drew) (g := w.heap.size) (Nat.le_refl _) #[.int .i64 0, .int .i64 0, .slice none 0 0]⟩
        obtain ⟨h1, h2, h3⟩ := hc
        rcases h3 with h3 | ⟨rfl, h3⟩
        · go_wp2_with fail
          go_region_held3 (fun W => W.cell? ⟨b0, off + 18, none⟩ = some (.int .u8 (kn : Int))) (go_keep)
            ((go_at_call 55; refine (HG.out).mono ?_; rintro e w' ⟨rfl, rfl⟩))
          go_wp2_with fail
          refine (HLE.out _).mono ?_
          rintro e w' ⟨rfl, rfl⟩
          go_wp2_with fail
          refine (HLE.out _).mono ?_
          rintro e w' ⟨rfl, rfl⟩
          go_wp2_with (refine wpList_store_blk (by rfl) 37 (.tmp 4) (.tmp 65) rfl w.heap.size #[.int .i64 0, .int .i64 0, .slice none 0 0] (by rfl) (by rfl) 37 _ hB1.drew (by kernel_rfl) (by rfl) (note_one _ _ _ _ _) ?_)
          refine bodyPost_ret (results_tmp_tmp_cell rfl _ _ _ 37 #[.int .i64 0, .int .i64 0, .slice none 0 0] (0, 0) _ (by simp [Act.put]) hM3 Tryd.underlying37 rfl (by kernel_rfl)) rfl ?_
          rw [HB.out]
          exact ⟨.slice none 0 0, by simp [Act.put, HR.val], HP.out⟩
        · go_wp2_with fail
          go_region_held3 (fun W => W.cell? ⟨b0, off + 18, none⟩ = some (.int .u8 ((4 : Nat) : Int))) (go_keep)
            ((go_at_call 55; refine (HG.out).mono ?_; rintro e w' ⟨rfl, rfl⟩))
          go_wp2_with fail
          refine (HLE.out _).mono ?_
          rintro e w' ⟨rfl, rfl⟩
          go_wp2_with fail
          refine (HLE.out _).mono ?_
          rintro e w' ⟨rfl, rfl⟩
          go_wp2_with (refine wpList_store_blk (by rfl) 37 (.tmp 4) (.tmp 65) rfl w.heap.size #[.int .i64 0, .int .i64 0, .slice none 0 0] (by rfl) (by rfl) 37 _ hB1.drew (by kernel_rfl) (by rfl) (note_one _ _ _ _ _) ?_)
          refine bodyPost_ret (results_tmp_tmp_cell rfl _ _ _ 37 #[.int .i64 0, .int .i64 0, .slice none 0 0] (0, 0) _ (by simp [Act.put]) hM3 Tryd.underlying37 rfl (by kernel_rfl)) rfl ?_
          rw [HB.out]
          exact ⟨.slice none 0 0, by simp [Act.put, HR.val, h3], HP.out⟩
      · have HB := Lib.hid (show headOf m a b k = ⟨0, 0, 1, 2, [a, b]⟩ from hO.trans (by rw [hq]; rfl))
        rw [hq] at hcase
        have hc : (((ofBe [a, b] : Nat) : Int) < leastZ k.toNat) ∨ (¬ ((ofBe [a, b] : Nat) : Int) < leastZ k.toNat ∧ (4096 : Int) < (ofBe [a, b] : Nat)) ∨ (¬ ((ofBe [a, b] : Nat) : Int) < leastZ k.toNat ∧ ¬ (4096 : Int) < (ofBe [a, b] : Nat) ∧ k.toNat = 4 ∧ ¬ ((ofBe [a, b] : Nat) : Int) = 19) := by
          rcases hcase with ⟨_, _, _, h⟩ | ⟨h1, _⟩ | ⟨h1, h2, _⟩ | ⟨h1, h2, h3, h4, _⟩
          · cases h
          · exact .inl h1
          · exact .inr (.inl ⟨h1, h2⟩)
          · exact .inr (.inr ⟨h1, h2, h3, h4⟩)
        have hM2 := hB1.alloc (.cells #[.int .u8 a.toNat, .int .u8 b.toNat] 5)
        obtain ⟨hM3, ho3⟩ := set3 hM2 (.int .i64 1) (.int .i64 2) (.slice (some ⟨wr.heap.size, 0, none⟩) 2 2)
        obtain ⟨m0, m1, m2, f0, f1, f2⟩ := blk3 hM2
        have hgw : w.heap.size < wr.heap.size := by rw [HS.out]; omega
        have hD := (Blk.new wr 5 #[.int .u8 a.toNat, .int .u8 b.toNat]).only ho3 (by omega)
        have HP : Hid (HeadPost ⟨0, 0, 1, 2, [a, b]⟩ w (.slice (some ⟨wr.heap.size, 0, none⟩) 2 2) _) := Lib.hid ⟨full_own (xs := [a, b].map vb) hD (by omega) rfl (by unfold maxLen; simp), (hb1.trans ((below_a1 wr (.cells #[.int .u8 a.toNat, .int .u8 b.toNat] 5)).mono hb1.size)).trans (ho3.below (by simp; omega) (fun i hi => by omega))⟩
        have HM := Lib.hid hM3
        have hne1 : ¬ b0 = w.heap.size := by omega
        have hne2 : ¬ w.heap.size = b0 := by omega
        clear hcase hO hq hkn hM3 ho3 hD hM2 hgw
        generalize ofBe [a, b] = ab at *
        generalize leastZ k.toNat = z at *
        generalize k.toNat = kn at *
        rcases hc with h1 | ⟨h1, h2⟩ | ⟨h1, h2, rfl, h4⟩
        · go_wp2_with fail
          go_region_held3 (fun W => W.cell? ⟨b0, off + 18, none⟩ = some (.int .u8 (kn : Int))) (go_keep)
            ((go_at_call 55; refine (HG.out).mono ?_; rintro e w' ⟨rfl, rfl⟩))
          go_wp2_with fail
          refine (HLE.out _).mono ?_
          rintro e w' ⟨rfl, rfl⟩
          go_wp2_with fail
          refine (HLE.out _).mono ?_
          rintro e w' ⟨rfl, rfl⟩
          go_wp2_with fail
          go_region_held3 (fun W => W.cell? ⟨b0, off + 16, none⟩ = some (.int .u8 a.toNat) ∧ W.cell? ⟨b0, off + 17, none⟩ = some (.int .u8 b.toNat)) (go_keep) (fail)
          go_wp2_with fail
          refine bodyPost_ret (results_tmp_tmp_cell rfl _ _ _ 37 #[.int .i64 1, .int .i64 2, .slice (some ⟨wr.heap.size, 0, none⟩) 2 2] (0, 0) _ (by simp) HM.out Tryd.underlying37 rfl (by kernel_rfl)) rfl ?_
          rw [HB.out]
          exact ⟨.slice (some ⟨wr.heap.size, 0, none⟩) 2 2, by simp [HR.val], HP.out.drew2⟩
        · go_wp2_with fail
          go_region_held3 (fun W => W.cell? ⟨b0, off + 18, none⟩ = some (.int .u8 (kn : Int))) (go_keep)
            ((go_at_call 55; refine (HG.out).mono ?_; rintro e w' ⟨rfl, rfl⟩))
          go_wp2_with fail
          refine (HLE.out _).mono ?_
          rintro e w' ⟨rfl, rfl⟩
          go_wp2_with fail
          refine (HLE.out _).mono ?_
          rintro e w' ⟨rfl, rfl⟩
          go_wp2_with fail
          go_region_held3 (fun W => W.cell? ⟨b0, off + 16, none⟩ = some (.int .u8 a.toNat) ∧ W.cell? ⟨b0, off + 17, none⟩ = some (.int .u8 b.toNat)) (go_keep) (fail)
          go_wp2_with fail
          refine bodyPost_ret (results_tmp_tmp_cell rfl _ _ _ 37 #[.int .i64 1, .int .i64 2, .slice (some ⟨wr.heap.size, 0, none⟩) 2 2] (0, 0) _ (by simp) HM.out Tryd.underlying37 rfl (by kernel_rfl)) rfl ?_
          rw [HB.out]
          exact ⟨.slice (some ⟨wr.heap.size, 0, none⟩) 2 2, by simp [HR.val], HP.out.drew2⟩
        · have h4b : ((ab : Int) == 19) = false := by simp [h4]
          have h4c : ((ab : Int) != 19) = true := by simp [bne, h4]
          have h4d : decide ((ab : Int) = 19) = false := by simp [h4]
          have h4n : ¬ ab = 19 := by omega
          go_wp2_with fail
          go_region_held3 (fun W => W.cell? ⟨b0, off + 18, none⟩ = some (.int .u8 ((4 : Nat) : Int))) (go_keep)
            ((go_at_call 55; refine (HG.out).mono ?_; rintro e w' ⟨rfl, rfl⟩))
          go_wp2_with fail
          refine (HLE.out _).mono ?_
          rintro e w' ⟨rfl, rfl⟩
          go_wp2_with fail
          refine (HLE.out _).mono ?_
          rintro e w' ⟨rfl, rfl⟩
          go_wp2_with fail
          go_region_held3 (fun W => W.cell? ⟨b0, off + 16, none⟩ = some (.int .u8 a.toNat) ∧ W.cell? ⟨b0, off + 17, none⟩ = some (.int .u8 b.toNat)) (go_keep) (fail)
          go_wp2_with fail
          refine bodyPost_ret (results_tmp_tmp_cell rfl _ _ _ 37 #[.int .i64 1, .int .i64 2, .slice (some ⟨wr.heap.size, 0, none⟩) 2 2] (0, 0) _ (by simp) HM.out Tryd.underlying37 rfl (by kernel_rfl)) rfl ?_
          rw [HB.out]
          exact ⟨.slice (some ⟨wr.heap.size, 0, none⟩) 2 2, by simp [HR.val], HP.out.drew2⟩
end

/-- WHAT ANY BYTES ARE AS A HEAD, by the document -/
theorem rhead_any (A : Option Addr) (c : Nat) (l : List UInt8) (F : Nat → Prop) (w : World) (hlc : l.length ≤ c) (hlm : l.length ≤ 9223372036854775807) (hr : Reads w F A (l.map vb)) :
    Calls Tryd.prog 58 #[.slice A l.length c] w fun e w' => ∃ v, e = .returned ((headR l).val v) ∧ HeadPost (headR l) w v w' := by
  by_cases hs : l.length < 19
  · rw [show headR l = ⟨0, 0, 0, 0, []⟩ from if_pos hs]
    exact rhead_short A c l.length w hs
  · have hl : 19 ≤ l.length := by omega
    rw [show headR l = headOf (l.take 16) (l.getD 16 0) (l.getD 17 0) (l.getD 18 0) from if_neg hs, getD_of (show 16 < l.length by omega), getD_of (show 17 < l.length by omega), getD_of (show 18 < l.length by omega)]
    obtain ⟨b0, off, rfl, _, hb0, h16⟩ := hr.at_ (k := 16) (by simp; omega)
    obtain ⟨b1, off1, e1, _, _, h17⟩ := hr.at_ (k := 17) (by simp; omega)
    obtain ⟨b2, off2, e2, _, _, h18⟩ := hr.at_ (k := 18) (by simp; omega)
    injection e1 with e1
    injection e1 with e1 e1'
    injection e2 with e2
    injection e2 with e2 e2'
    subst e1 e1' e2 e2'
    simp only [List.getElem_map, vb] at h16 h17 h18
    have hm : (l.take 16).length = 16 := by simp; omega
    have hrm : Reads w F (some ⟨b0, off, none⟩) ((l.take 16).map vb) := by
      have := hr.take 16
      rwa [← List.map_take] at this
    have hrab : Reads w F (some ⟨b0, off + 16, none⟩) ([l[16], l[17]].map vb) := by
      have h1 := (hr.drop (k := 16) (A' := some ⟨b0, off + 16, none⟩) (fun _ b o e => by injection e with e; injection e with e e'; subst e e'; rfl)).take 2
      rw [← List.map_drop, ← List.map_take] at h1
      have h2 : (l.drop 16).take 2 = [l[16], l[17]] := by
        rw [List.drop_eq_getElem_cons (by omega : 16 < l.length), List.drop_eq_getElem_cons (by omega : 16 + 1 < l.length)]
        rfl
      rwa [h2] at h1
    exact rhead_rest b0 off c l.length (l.take 16) l[16] l[17] l[18] F w hm hb0 hrm hrab h16 h17 h18 hl hlc hlm
end Go.Proofs.YtbmbpcibihddaaaDoor
