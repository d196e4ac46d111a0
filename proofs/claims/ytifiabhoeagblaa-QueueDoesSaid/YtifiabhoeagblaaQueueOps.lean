/-
  The queue's calls, one contract each, at a queue that New made and that Put, Take and Clear have turned. No condition.
-/
import Derived.Test.YtifiabhoeagblaaBytes
import Derived.Test.YtifiabhoeagblaaChecked
import Derived.StillTailTactics
import Derived.Deep.RegionHeld3
import Derived.LoopTactic
namespace Go.Proofs.Ytifiabhoeagblaa
open Go.ChangeShapes Go.WideShapes Go.ChangeAt Go.RowKit

theorem infoU8 : (Try.prog.info? 5).map (fun i => (i.zero, i.size, i.bytes)) = some (some (.int .u8 0), 1, 1) := by kernel_rfl

/-- a queue in memory: its struct, the ring behind it, what it holds -/
structure IsQ (w : World) (F : Nat → Prop) (qb : Nat) (bs : List UInt8) (room : Nat) (A : Option Addr) (R c p : Nat) (rs : List UInt8) : Prop where
  q : Blk w qb 84 #[.slice A R c, .int .i64 p, .int .i64 bs.length, .int .i64 room, .bool true]
  rl : rs.length = R
  rc : R ≤ c
  ring : R = 0 ∨ ∃ rb, A = some ⟨rb, 0, none⟩ ∧ Blk w rb 5 (rs.map vb).toArray ∧ F rb
  le : bs.length ≤ R
  lr : R ≤ room
  lm : room ≤ 65536
  alt : p ≤ R
  alt' : 0 < R → p < R
  val : ∀ i (h : i < bs.length), rs[(p + i) % R]? = some bs[i]
  fq : F qb

section
variable {w w' : World} {F : Nat → Prop} {qb : Nat} {bs : List UInt8} {room : Nat} {A : Option Addr} {R c p : Nat} {rs : List UInt8}

set_option maxHeartbeats 400000 in
theorem q_look (hQ : IsQ w F qb bs room A R c p rs) (n : Nat) (hn : n ≤ bs.length) :
    Calls Try.prog 38 #[.pointer (some ⟨qb, 0, none⟩), .int .i64 n] w fun e w' =>
      ∃ v, e = .returned v ∧ w'.ownsRow w.heap.size 5 1 v n ((bs.take n).map vb) ∧ Below w.heap.size w w' := by
  obtain ⟨i0, hi, hz0, hz1, hz2⟩ := info_parts infoU8
  have h1 := hQ.le
  have h2 := hQ.lr
  have h3 := hQ.lm
  go_enter Try.func38, Try.ntmps38
  go_wp2_with (at_make; refine wpList_make_own _ rfl _ _ 54 rfl w.heap.size 5 i0 (.int .u8 0) 1 Try.underlying54 hi hz0 hz1 _ _ _ n rfl rfl rfl (by rw [hz2]; omega) (by unfold maxLen; omega) (Nat.le_refl _) ?_; intro w1 hown1 hg1)
  have hb1 : Below w.heap.size w w1 := (Below.refl _ _).grown hg1 (Nat.le_refl _) (fun k hk => by cases hk)
  clear hg1
  generalize hG : w.heap.size = G at hown1 hb1 ⊢
  go_loopw [5, 10] (fun o i wr => ∃ k : Nat, k ≤ n ∧ i = .int .i64 k ∧ wr.ownsRow G 5 1 o k ((bs.take k).map vb) ∧ Below G w wr) (fun _ i _ => n - (intOf i).toNat)
  case atStart => exact ⟨0, by omega, rfl, by simpa using hown1, hb1⟩
  case round =>
    obtain ⟨k, hk, rfl, hown, hbel⟩ := hrel
    clear hown1 hb1
    by_cases hlt : k < n
    · have hq := hQ.q.below hbel (by have := hQ.q.lt; omega)
      obtain ⟨rb, rfl, hr0, -⟩ : ∃ rb, A = some ⟨rb, 0, none⟩ ∧ Blk w rb 5 (rs.map vb).toArray ∧ F rb := by
        rcases hQ.ring with h0 | h0
        · omega
        · exact h0
      have hr := hr0.below hbel (by have := hr0.lt; omega)
      have hR : 0 < R := by omega
      have halt := hQ.alt' hR
      have hval := hQ.val k (by omega)
      have hm : (p + k) % R < R := Nat.mod_lt _ hR
      have hcell : wr.cell? ⟨rb, (p + k) % R, none⟩ = some (vb bs[k]) := by
        rw [hr.cell]
        simp [hval]
      have hc0 := hq.cell 0
      have hc1 := hq.cell 1
      simp at hc0 hc1
      have hs : IntKind.i64.wrap ((p : Int) + (k : Int)) = (p : Int) + (k : Int) := IntWalk.i64_in _ (by omega)
      have e1 : ((p : Int) + (k : Int)).tmod (R : Int) = (((p + k) % R : Nat) : Int) := by
        rw [← Int.natCast_add, ← Int.ofNat_tmod]
      generalize (p + k) % R = m at hcell hm e1 hval
      have e2 : IntKind.i64.wrap (m : Int) = (m : Int) := IntWalk.i64_in _ (by omega)
      have e3 : ((R : Int) == 0) = false := by simp; omega
      have e4 : ¬ R = 0 := by omega
      have e5 : (0 : Int) ≤ (m : Int) := by omega
      have e6 : (m : Int) < (R : Int) := by omega
      have hqb := hQ.q.lt
      have hrb := hr0.lt
      have hne1 : u5.ownBlock ≠ some qb := fun he => by have := hown.lt _ he; omega
      have hne2 : u5.ownBlock ≠ some rb := fun he => by have := hown.lt _ he; omega
      have hsz := hbel.size
      rw [hG] at hsz
      have hcat := Lib.hid (show (bs.take k).map vb ++ [vb bs[k]] = (bs.take (k + 1)).map vb from by rw [List.take_succ_eq_append_getElem (by omega), List.map_append]; rfl)
      clear hval
      unfold vb at hcell
      generalize hz : (bs[k].toNat : Int) = z at hcell
      have HZ := Lib.hid hz
      clear hz
      go_wp2_with fail
      go_region_held3 (fun w' => w'.cell? ⟨qb, 0, none⟩ = some (.slice (some ⟨rb, 0, none⟩) R c) ∧ w'.cell? ⟨qb, 1, none⟩ = some (.int .i64 p) ∧ w'.cell? ⟨rb, m, none⟩ = some (.int .u8 z))
        (first | go_keep | (go_split_ands; refine ⟨?_, ?_, ?_⟩ <;> first | (rw [hgrow.cell_far _ (by simp; omega) (Ne.symm hne1)]; assumption) | (rw [hgrow.cell_far _ (by simp; omega) (Ne.symm hne2)]; assumption)))
        ((refine step_append_lies _ (by rfl) _ _ _ (by rfl) G 5 i0 _ 1 1 Try.underlying54 hi hz0 hz1 hz2 rfl (by omega) u5 k ((bs.take k).map vb) (by rfl) ((hown.alloc _).drew)
            ⟨wr.heap.size, 0, none⟩ 1 1 [.int .u8 z] (by rfl) (by rfl) (World.news_of_block (cs := #[.int .u8 z]) (t := 5) (fr := (0, 0)) (heap_alloc_new wr _)) (by simp [Value.oneCell'])
            (by omega) (by unfold maxLen; omega) (by omega) (by simp; omega) (wr.heap.size + 1) (by simp) ?_; intro gg cap w1 hown1 hgrow hat hlt1))
      have hrow : w1.ownsRow G 5 1 (.slice (some ⟨gg, 0, none⟩) (k + 1) cap) (k + 1) ((bs.take (k + 1)).map vb) := by
        rw [← hcat.out]
        unfold vb at hown1 ⊢
        rw [HZ.out]
        exact hown1
      have hbel1 : Below G w w1 := by
        refine (hbel.alloc hsz (.cells #[.int .u8 z] 5)).drew.grown hgrow (by simp; omega) (fun g hg => (hown.lt g hg).1)
      clear hown1 hgrow hown hbel hcell hc0 hc1 hq hr0 hr
      go_wp2
      go_roundw
      case rel => exact ⟨k + 1, by omega, by go_num, hrow, hbel1⟩
      case measure => simp [intOf]; omega
    · obtain rfl : k = n := by omega
      clear hQ
      go_wp2
      go_ret
      exact ⟨_, rfl, by rw [hG]; exact hown, by rw [hG]; exact hbel⟩

theorem q_len (hQ : IsQ w F qb bs room A R c p rs) : Calls Try.prog 27 #[.pointer (some ⟨qb, 0, none⟩)] w fun e w' => e = .returned (.int .i64 bs.length) ∧ w = w' := by
  have hc2 := hQ.q.cell 2
  simp at hc2
  clear hQ
  go_enter Try.func27, Try.ntmps27
  go_wp2
  go_ret
  exact ⟨rfl, rfl⟩
theorem q_room (hQ : IsQ w F qb bs room A R c p rs) : Calls Try.prog 28 #[.pointer (some ⟨qb, 0, none⟩)] w fun e w' => e = .returned (.int .i64 ((room : Int) - bs.length)) ∧ ∃ k, w' = w.drewN k := by
  have hc2 := hQ.q.cell 2
  have hc3 := hQ.q.cell 3
  simp at hc2 hc3
  have hs : IntKind.i64.wrap ((room : Int) - (bs.length : Int)) = (room : Int) - (bs.length : Int) := IntWalk.i64_in _ (by have := hQ.le; have := hQ.lr; have := hQ.lm; omega)
  clear hQ
  go_enter Try.func28, Try.ntmps28
  go_wp2
  go_quiet (fail)
  go_wp2
  go_ret
  exact ⟨rfl, ⟨_, rfl⟩⟩
theorem IsQ.ofBlks (F' : Nat → Prop) {w' : World} (hQ : IsQ w F qb bs room A R c p rs) (hb : ∀ k, k < w.heap.size → F k → w'.heap[k]? = w.heap[k]?) (hF : ∀ k, F k → F' k) : IsQ w' F' qb bs room A R c p rs :=
  ⟨(hb _ hQ.q.lt hQ.fq).trans hQ.q, hQ.rl, hQ.rc, hQ.ring.imp id fun ⟨rb, e, h1, h2⟩ => ⟨rb, e, (hb _ h1.lt h2).trans h1, hF _ h2⟩, hQ.le, hQ.lr, hQ.lm, hQ.alt, hQ.alt', hQ.val, hF _ hQ.fq⟩
theorem IsQ.drewN (hQ : IsQ w F qb bs room A R c p rs) (k : Nat) : IsQ (w.drewN k) F qb bs room A R c p rs := hQ.ofBlks F (fun _ _ _ => rfl) fun _ h => h

set_option maxHeartbeats 1000000 in
theorem q_grow_core (hQ : IsQ w F qb bs room A R c p rs) (more : Nat) (hm : bs.length + more ≤ room) (hgt : R < bs.length + more) (M : Nat) (hM1 : bs.length + more ≤ M) (hM2 : M ≤ room)
    (hM : (M : Int) = max ((bs.length : Int) + more) (min (2 * (R : Int)) room)) :
    Calls Try.prog 37 #[.pointer (some ⟨qb, 0, none⟩), .int .i64 more] w fun e w' => e = .returned (.tuple #[]) ∧
      ∃ (g c' : Nat) (rs' : List UInt8), w.heap.size ≤ g ∧ IsQ w' (fun k => k = qb ∨ k = g) qb bs room (some ⟨g, 0, none⟩) M c' 0 rs' ∧ Only (· = qb) w w' := by
  obtain ⟨i0, hi, hz0, hz1, hz2⟩ := info_parts infoU8
  have h1 := hQ.le
  have h2 := hQ.lr
  have h3 := hQ.lm
  have hc0 := hQ.q.cell 0
  have hc2 := hQ.q.cell 2
  have hc3 := hQ.q.cell 3
  simp at hc0 hc2 hc3
  have hs : IntKind.i64.wrap ((bs.length : Int) + (more : Int)) = (bs.length : Int) + (more : Int) := IntWalk.i64_in _ (by omega)
  have hs2 : IntKind.i64.wrap (2 * (R : Int)) = 2 * (R : Int) := IntWalk.i64_in _ (by omega)
  have hd : decide ((bs.length : Int) + (more : Int) ≤ (R : Int)) = false := by simp; omega
  by_cases hA : (room : Int) < 2 * (R : Int)
  · by_cases hB : (bs.length : Int) + (more : Int) < (room : Int)
    all_goals
      try have hB' : (room : Int) ≤ (bs.length : Int) + (more : Int) := by omega
      go_enter Try.func37, Try.ntmps37
      go_wp2_with fail
      go_quiet (fail)
      have hqW := hQ.drewN nq
      have hoW := (Only.refl (· = qb) w).drewN nq
      have hsW : (w.drewN nq).heap.size = w.heap.size := rfl
      clear hc0 hc2 hc3
      generalize w.drewN nq = W at hqW hoW hsW ⊢
      have hc0 := hqW.q.cell 0
      have hc2 := hqW.q.cell 2
      have hc3 := hqW.q.cell 3
      simp at hc0 hc2 hc3
      go_wp2_with fail
      go_still_tail 18, (by kernel_rfl)
      refine wpList_make_full W.drew rfl (.tmp 34) (.tmp 34) 54 rfl w.heap.size 5 i0 (.int .u8 0) 1 Try.underlying54 hi hz0 hz1 .i64 .i64 _ _ M rfl rfl (by rw [hM]; omega) (by rw [hM]; omega) (by rw [hz2]; omega) (by unfold maxLen; omega) (by show w.heap.size ≤ W.heap.size; omega) ?_
      intro w1 hown1 hg1
      have hg1' : W.grownBy w1 none := ⟨hg1.os, hg1.tape, hg1.output, hg1.size, hg1.block⟩
      have hq1 : IsQ w1 F qb bs room A R c p rs := hqW.ofBlks F (fun k hk _ => hg1'.block k hk (by simp)) (fun _ h => h)
      have ho1 : Only (· = qb) w w1 := hoW.grown hg1' (fun k hk => by cases hk)
      have hge : (W.drew).heap.size = w.heap.size := hsW
      rw [hge] at hown1 ⊢
      clear hg1 hg1' hqW hoW hc0 hc2 hc3
      have hc2 := hq1.q.cell 2
      simp at hc2
      go_wp2_with fail
      refine (q_look hq1 bs.length (Nat.le_refl _)).mono ?_
      rintro e w2 ⟨v, rfl, hown2, hb2⟩
      rw [List.take_length] at hown2
      have hcur : Blk w2 w.heap.size 5 (List.replicate M (Value.int .u8 0)).toArray := by
        have := own_full hown1
        rw [Nat.mul_one, show (Value.int .u8 0).cells = #[Value.int .u8 0] from rfl, toList_madeCells_one] at this
        exact this.below hb2 this.lt
      have hq2 := hq1.ofBlks F (fun k hk _ => hb2.block k hk) (fun _ h => h)
      have ho2 : Only (· = qb) w w2 := ho1.trans (Only.of_below (S := (· = qb)) hb2) (fun _ _ h => h)
      have hsz1 := ho1.size
      obtain ⟨A2, c2, rfl, hn2, hc2', hnil2, hr2⟩ := own_reads hown2
      clear hown1 hc2 hq1 hb2 ho1
      go_wp2_with (refine wpList_copy_splice rfl (.tmp 36) (.tmp 42) 54 54 rfl 5 Try.underlying54 (by kernel_rfl) (some ⟨w.heap.size, 0, none⟩) A2 M M bs.length c2 (by rfl) (by rfl) w.heap.size 0 (List.replicate M (Value.int .u8 0)) 5 hcur (bs.map vb) ?_ ?_ ?_ (vb_one bs) w.heap.size w2 (Below.refl _ _) (Nat.le_refl _) ?_)
      · rw [List.length_map]; exact (Nat.min_eq_left (by omega)).symm
      · intro h0
        rcases hr2 with hnil | ⟨b, off, rfl, _, _, hc⟩
        · exfalso; have := congrArg List.length hnil; simp at this; subst this; simp at h0
        · exact ⟨_, rfl, fun j a hj => by rw [addr_add rfl]; exact hc j _ (by simp [hj])⟩
      · simp; omega
      · intro w3 hw3 hb3
        rw [splice_vb] at hw3
        have hrow : Blk w3 w.heap.size 5 ((bs ++ List.replicate (M - bs.length) 0).map vb).toArray := hw3.out
        have hq3 : Blk w3 qb 84 #[.slice A R c, .int .i64 p, .int .i64 bs.length, .int .i64 room, .bool true] := hq2.q.below hb3 (by have := hQ.q.lt; omega)
        have ho3 : Only (· = qb) w w3 := ho2.trans (T := fun k => w.heap.size ≤ k) ⟨hb3.os, hb3.tape, hb3.output, hb3.size, fun k _ hn => hb3.block k (by omega)⟩ (fun i hi ht => by omega)
        have hne : w.heap.size ≠ qb := by have := hQ.q.lt; omega
        have hf0 := hq3.frozen 0
        have hf1 := hq3.frozen 1
        have hcc0 := hq3.cell 0
        have hcc1 := hq3.cell 1
        simp at hcc0 hcc1
        clear hw3 hb3 hr2 hq2 ho2 hcur hown2
        go_wp2_with fail
        go_end0
        refine ⟨rfl, w.heap.size, M, bs ++ List.replicate (M - bs.length) 0, Nat.le_refl _, ⟨?_, by simp; omega, Nat.le_refl _, .inr ⟨w.heap.size, rfl, ((hrow.far (p := ⟨qb, 0, none⟩) hne _).far (p := ⟨qb, 1, none⟩) hne _), .inr rfl⟩, by omega, hM2, h3, by omega, fun h => h, ?_, .inl rfl⟩, ?_⟩
        · have := (hq3.set_ 0 (.slice (some ⟨w.heap.size, 0, none⟩) M M)).set_ 1 (.int .i64 0)
          simpa using this
        · intro i hi
          rw [Nat.zero_add, Nat.mod_eq_of_lt (by omega), List.getElem?_append_left hi, List.getElem?_eq_getElem hi]
        · exact (ho3.setCell (p := ⟨qb, 0, none⟩) (fun _ => rfl) _).setCell (p := ⟨qb, 1, none⟩) (fun _ => rfl) _
  · have hA' : 2 * (R : Int) ≤ (room : Int) := by omega
    by_cases hB : (bs.length : Int) + (more : Int) < 2 * (R : Int)
    all_goals
      try have hB' : 2 * (R : Int) ≤ (bs.length : Int) + (more : Int) := by omega
      go_enter Try.func37, Try.ntmps37
      go_wp2_with fail
      go_quiet (fail)
      have hqW := hQ.drewN nq
      have hoW := (Only.refl (· = qb) w).drewN nq
      have hsW : (w.drewN nq).heap.size = w.heap.size := rfl
      clear hc0 hc2 hc3
      generalize w.drewN nq = W at hqW hoW hsW ⊢
      have hc0 := hqW.q.cell 0
      have hc2 := hqW.q.cell 2
      have hc3 := hqW.q.cell 3
      simp at hc0 hc2 hc3
      go_wp2_with fail
      go_still_tail 18, (by kernel_rfl)
      refine wpList_make_full W.drew rfl (.tmp 34) (.tmp 34) 54 rfl w.heap.size 5 i0 (.int .u8 0) 1 Try.underlying54 hi hz0 hz1 .i64 .i64 _ _ M rfl rfl (by rw [hM]; omega) (by rw [hM]; omega) (by rw [hz2]; omega) (by unfold maxLen; omega) (by show w.heap.size ≤ W.heap.size; omega) ?_
      intro w1 hown1 hg1
      have hg1' : W.grownBy w1 none := ⟨hg1.os, hg1.tape, hg1.output, hg1.size, hg1.block⟩
      have hq1 : IsQ w1 F qb bs room A R c p rs := hqW.ofBlks F (fun k hk _ => hg1'.block k hk (by simp)) (fun _ h => h)
      have ho1 : Only (· = qb) w w1 := hoW.grown hg1' (fun k hk => by cases hk)
      have hge : (W.drew).heap.size = w.heap.size := hsW
      rw [hge] at hown1 ⊢
      clear hg1 hg1' hqW hoW hc0 hc2 hc3
      have hc2 := hq1.q.cell 2
      simp at hc2
      go_wp2_with fail
      refine (q_look hq1 bs.length (Nat.le_refl _)).mono ?_
      rintro e w2 ⟨v, rfl, hown2, hb2⟩
      rw [List.take_length] at hown2
      have hcur : Blk w2 w.heap.size 5 (List.replicate M (Value.int .u8 0)).toArray := by
        have := own_full hown1
        rw [Nat.mul_one, show (Value.int .u8 0).cells = #[Value.int .u8 0] from rfl, toList_madeCells_one] at this
        exact this.below hb2 this.lt
      have hq2 := hq1.ofBlks F (fun k hk _ => hb2.block k hk) (fun _ h => h)
      have ho2 : Only (· = qb) w w2 := ho1.trans (Only.of_below (S := (· = qb)) hb2) (fun _ _ h => h)
      have hsz1 := ho1.size
      obtain ⟨A2, c2, rfl, hn2, hc2', hnil2, hr2⟩ := own_reads hown2
      clear hown1 hc2 hq1 hb2 ho1
      go_wp2_with (refine wpList_copy_splice rfl (.tmp 36) (.tmp 42) 54 54 rfl 5 Try.underlying54 (by kernel_rfl) (some ⟨w.heap.size, 0, none⟩) A2 M M bs.length c2 (by rfl) (by rfl) w.heap.size 0 (List.replicate M (Value.int .u8 0)) 5 hcur (bs.map vb) ?_ ?_ ?_ (vb_one bs) w.heap.size w2 (Below.refl _ _) (Nat.le_refl _) ?_)
      · rw [List.length_map]; exact (Nat.min_eq_left (by omega)).symm
      · intro h0
        rcases hr2 with hnil | ⟨b, off, rfl, _, _, hc⟩
        · exfalso; have := congrArg List.length hnil; simp at this; subst this; simp at h0
        · exact ⟨_, rfl, fun j a hj => by rw [addr_add rfl]; exact hc j _ (by simp [hj])⟩
      · simp; omega
      · intro w3 hw3 hb3
        rw [splice_vb] at hw3
        have hrow : Blk w3 w.heap.size 5 ((bs ++ List.replicate (M - bs.length) 0).map vb).toArray := hw3.out
        have hq3 : Blk w3 qb 84 #[.slice A R c, .int .i64 p, .int .i64 bs.length, .int .i64 room, .bool true] := hq2.q.below hb3 (by have := hQ.q.lt; omega)
        have ho3 : Only (· = qb) w w3 := ho2.trans (T := fun k => w.heap.size ≤ k) ⟨hb3.os, hb3.tape, hb3.output, hb3.size, fun k _ hn => hb3.block k (by omega)⟩ (fun i hi ht => by omega)
        have hne : w.heap.size ≠ qb := by have := hQ.q.lt; omega
        have hf0 := hq3.frozen 0
        have hf1 := hq3.frozen 1
        have hcc0 := hq3.cell 0
        have hcc1 := hq3.cell 1
        simp at hcc0 hcc1
        clear hw3 hb3 hr2 hq2 ho2 hcur hown2
        go_wp2_with fail
        go_end0
        refine ⟨rfl, w.heap.size, M, bs ++ List.replicate (M - bs.length) 0, Nat.le_refl _, ⟨?_, by simp; omega, Nat.le_refl _, .inr ⟨w.heap.size, rfl, ((hrow.far (p := ⟨qb, 0, none⟩) hne _).far (p := ⟨qb, 1, none⟩) hne _), .inr rfl⟩, by omega, hM2, h3, by omega, fun h => h, ?_, .inl rfl⟩, ?_⟩
        · have := (hq3.set_ 0 (.slice (some ⟨w.heap.size, 0, none⟩) M M)).set_ 1 (.int .i64 0)
          simpa using this
        · intro i hi
          rw [Nat.zero_add, Nat.mod_eq_of_lt (by omega), List.getElem?_append_left hi, List.getElem?_eq_getElem hi]
        · exact (ho3.setCell (p := ⟨qb, 0, none⟩) (fun _ => rfl) _).setCell (p := ⟨qb, 1, none⟩) (fun _ => rfl) _
end
end Go.Proofs.Ytifiabhoeagblaa
