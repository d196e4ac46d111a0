/-
  A queue takes as much as it has room for, and no byte more: the walk of 'QueueFull'. No condition but that the arguments read as data.
-/
import Derived.Test.YtifiabhoeagblaaQueueLives
namespace Go.Proofs.Ytifiabhoeagblaa
open Go.ChangeShapes Go.WideShapes Go.ChangeAt Go.RowKit

set_option maxHeartbeats 1000000 in
theorem queue_full_walk (n : Int) (A : Option Addr) (c : Nat) (b : List UInt8) (F0 : Nat → Prop) (w : World) (hl : b.length ≤ 9223372036854775807) (hr : Reads w F0 A (b.map vb)) :
    Calls Try.prog 9 #[.int .i64 n, .slice A b.length c] w fun e w' => e = .returned (.bool true) ∧ Below w.heap.size w w' := by
  by_cases hin : 0 ≤ n ∧ n ≤ 65536 ∧ b.length ≤ 1000 ∧ 0 < b.length
  · obtain ⟨i0, hi, hz0, hz1, hz2⟩ := info_parts infoU8
    obtain ⟨h1, h2, h3, h4⟩ := hin
    obtain ⟨room, rfl⟩ := Int.eq_ofNat_of_zero_le h1
    have d1 : (b.length : Int) ≤ 1000 := by omega
    have d2 : ((b.length : Int) == 0) = false := beq_eq_false_iff_ne.2 (by omega)
    have d3 : ¬ (room : Int) < 0 := by omega
    have hr' := (hr.mono (G := (· < w.heap.size)) (fun k hk _ => hk))
    have hroom : room ≤ 65536 := by omega
    go_enter Try.func9, Try.ntmps9
    go_wp2_with fail
    refine (q_new_ok room _ hroom).mono ?_
    rintro e W ⟨rfl, hq, hb⟩
    have g0 : QL w W (· = w.heap.size) w.heap.size [] room := ⟨hq, fun k hk => by omega, hb⟩
    clear hq hb hr
    go_wp2_with fail
    refine (queue_lives _).mono ?_
    rintro e W1 ⟨rfl, hb1⟩
    have g1 := g0.below hb1
    clear g0 hb1
    go_wp2_with fail
    go_loopw [7] (fun i wr => ∃ (F : Nat → Prop) (bs : List UInt8), i = .int .i64 bs.length ∧ QL w wr F w.heap.size bs room) (fun i _ => room - (intOf i).toNat)
    case atStart => exact ⟨_, [], rfl, g1⟩
    case round =>
      obtain ⟨F, bs, rfl, g⟩ := hrel
      clear g1
      obtain ⟨g5, g6⟩ := g.qs.le
      go_wp2_with fail
      refine (q_put g.qs (· < w.heap.size) _ _ b (hr'.below g.bel (fun _ _ h => h)) (fun k hk hf => by have := g.lo k hf; omega)).mono ?_
      rintro e W2 ⟨rfl, F', hF', hq', ho'⟩
      have g2 := g.put hF' hq' ho'
      clear hF' hq' ho' g
      by_cases hfit : bs.length + b.length ≤ room
      · have e1 : putB room bs b = true := by simpa [putB] using hfit
        have e2 : putL room bs b = bs ++ b := if_pos hfit
        rw [e1]
        rw [e2] at g2
        have hs : IntKind.i64.wrap ((bs.length : Int) + (b.length : Int)) = (bs.length : Int) + (b.length : Int) := IntWalk.i64_in _ (by omega)
        clear e1 e2
        go_wp2_with fail
        go_roundw
        case rel => exact ⟨F', bs ++ b, by simp, g2⟩
        case measure => simp [intOf]; omega
      · have e1 : putB room bs b = false := by simpa [putB] using hfit
        have e2 : putL room bs b = bs := if_neg hfit
        rw [e1]
        rw [e2] at g2
        clear e1 e2
        have d4 : (bs.length : Int) ≤ (room : Int) := by omega
        have d5 : (room : Int) - (bs.length : Int) < (b.length : Int) := by omega
        have hs : IntKind.i64.wrap ((room : Int) - (bs.length : Int)) = (room : Int) - (bs.length : Int) := IntWalk.i64_in _ (by omega)
        go_wp2_with (refine wpList_make_w _ (by rfl) (.tmp 61) (.tmp 61) 54 rfl 0 5 i0 (.int .u8 0) 1 Try.underlying54 hi hz0 hz1 .i64 .i64 _ _ (room - bs.length) (by rfl) (by rfl) (by omega) (by omega) (by rw [hz2]; omega) (by unfold maxLen; omega) (Nat.zero_le _) ?_)
        intro w3 hown3 hg3
        have hb3 : Below W2.heap.size W2 w3 := (Below.refl _ _).grown hg3 (Nat.le_refl _) (fun k hk => by cases hk)
        have g3 := g2.below hb3
        have hrow := own_full hown3
        rw [toList_madeCells_one, replicate_vb] at hrow
        have hrz : Reads w3 (· = W2.heap.size) (some ⟨W2.heap.size, 0, none⟩) ((List.replicate (room - bs.length) (0 : UInt8)).map vb) :=
          .inr ⟨W2.heap.size, 0, rfl, rfl, hrow.lt, fun j u hj => by rw [hrow.cell, List.getElem?_toArray]; simpa using hj⟩
        have hlo : ∀ k, k = W2.heap.size → ¬ F' k := fun k hk hf => by have := g2.qs.2 k hf; omega
        have hz : (List.replicate (room - bs.length) (0 : UInt8)).length = room - bs.length := by simp
        have hp := q_put g3.qs (· = W2.heap.size) _ (room - bs.length) (List.replicate (room - bs.length) (0 : UInt8)) hrz hlo
        rw [hz, show putB room bs (List.replicate (room - bs.length) (0 : UInt8)) = true from by simp [putB]; omega,
          show putL room bs (List.replicate (room - bs.length) (0 : UInt8)) = bs ++ List.replicate (room - bs.length) 0 from if_pos (by simp; omega)] at hp
        have HP := Lib.hid hp
        clear hp hown3 hg3 hb3 g2 hrow hrz hlo hz
        go_wp2_with fail
        refine HP.out.mono ?_
        rintro e W4 ⟨rfl, F4, hF4, hq4, ho4⟩
        have g4 := g3.put hF4 hq4 ho4
        clear HP hF4 hq4 ho4 g3
        have hl4 : (bs ++ List.replicate (room - bs.length) (0 : UInt8)).length = room := by simp; omega
        generalize bs ++ List.replicate (room - bs.length) (0 : UInt8) = all at g4 hl4
        have HL4 := Lib.hid hl4
        clear hl4
        go_wp2_with fail
        refine (q_put (g4.alloc _).qs (· = W4.heap.size) _ _ [1] (by exact reads_new W4 [.int .u8 1] 5) (fun k hk hf => by have := g4.qs.2 k hf; omega)).mono ?_
        rintro e W5 ⟨he, F5, hF5, hq5, ho5⟩
        rw [show putB room all [1] = false from by simp [putB]; have := HL4.out; omega] at he
        rw [show putL room all [1] = all from if_neg (by have := HL4.out; simp; omega)] at hq5
        obtain rfl : e = .returned (.bool false) := he
        have g5' := (g4.alloc _).put hF5 hq5 ho5
        clear hF5 hq5 ho5 g4
        go_wp2_with fail
        refine (q_take g5'.qs 1048576).mono ?_
        rintro e W6 ⟨v, rfl, hv, hq6, ho6⟩
        have ht : takeN 1048576 all.length = room := by simp only [takeN]; have := HL4.out; omega
        rw [ht] at hv hq6
        have g6' := g5'.same hq6 ho6
        rw [show all.drop room = [] from List.drop_eq_nil_of_le (by have := HL4.out; omega)] at g6'
        obtain ⟨A6, c6, rfl⟩ := own_len hv
        clear g5' hq6 ho6 hv ht
        go_wp2_with fail
        refine (qs_room g6'.qs).mono ?_
        rintro e W7 ⟨he, k, rfl⟩
        obtain rfl : e = .returned (.int .i64 room) := by rw [he]; simp
        go_wp2_with fail
        go_ret
        exact ⟨rfl, (g6'.drewN k).bel⟩
  · by_cases h1 : n < 0
    · go_enter Try.func9, Try.ntmps9
      go_wp2_with (go_at_call 21; refine (queue_lives _).mono ?_; rintro e W1 ⟨rfl, hb1⟩)
      go_ret
      exact ⟨rfl, hb1⟩
    · by_cases h2 : 65536 < n
      · go_enter Try.func9, Try.ntmps9
        go_wp2_with (go_at_call 21; refine (queue_lives _).mono ?_; rintro e W1 ⟨rfl, hb1⟩)
        go_ret
        exact ⟨rfl, hb1⟩
      · by_cases h3 : 1000 < b.length
        · have h3' : (1000 : Int) < (b.length : Int) := by omega
          go_enter Try.func9, Try.ntmps9
          go_wp2_with (go_at_call 21; refine (queue_lives _).mono ?_; rintro e W1 ⟨rfl, hb1⟩)
          go_ret
          exact ⟨rfl, hb1⟩
        · obtain rfl : b = [] := List.eq_nil_of_length_eq_zero (by omega)
          go_enter Try.func9, Try.ntmps9
          go_wp2_with (go_at_call 21; refine (queue_lives _).mono ?_; rintro e W1 ⟨rfl, hb1⟩)
          go_ret
          exact ⟨rfl, hb1⟩
end Go.Proofs.Ytifiabhoeagblaa
