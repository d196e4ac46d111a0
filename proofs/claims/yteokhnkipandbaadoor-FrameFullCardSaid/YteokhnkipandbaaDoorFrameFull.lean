/-
  A stream takes 65536 bytes, and no more; a nil one none: the walk of 'FrameFull'. No condition but that the table of least lengths reads as it is laid.
-/
import Derived.Test.YteokhnkipandbaaDoorFrameM
namespace Go.Proofs.YteokhnkipandbaaDoor
open Go.ChangeShapes Go.WideShapes Go.ChangeAt Go.RowKit

set_option maxRecDepth 100000 in
set_option maxHeartbeats 8000000 in
theorem frame_full_walk (n : Int) (w : World) (hL : LeastAt w) :
    Calls Tryd.prog 9 #[.int .i64 n] w fun e w' => e = .returned (.bool true) ∧ Below w.heap.size w w' := by
  by_cases h0 : n < 0
  case pos =>
    go_enter Tryd.func9, Tryd.ntmps9
    go_wp2_with fail
    refine (frame_lives _ hL).mono ?_
    rintro e w1 ⟨rfl, hb⟩
    go_wp2_with fail
    go_ret
    exact ⟨rfl, hb⟩
  by_cases h7 : 70000 < n
  case pos =>
    go_enter Tryd.func9, Tryd.ntmps9
    go_wp2_with fail
    refine (frame_lives _ hL).mono ?_
    rintro e w1 ⟨rfl, hb⟩
    go_wp2_with fail
    go_ret
    exact ⟨rfl, hb⟩
  obtain ⟨N, rfl⟩ : ∃ N : Nat, n = (N : Int) := ⟨n.toNat, by omega⟩
  have hN : N ≤ 70000 := by omega
  obtain ⟨i0, hi, hz0, hz1, hz2⟩ := info_parts infoU8
  go_enter Tryd.func9, Tryd.ntmps9
  go_wp2_with fail
  refine (new_strm _).mono ?_
  rintro e W1 ⟨rfl, s1, b1⟩
  have L1 := hL.below b1
  go_wp2_with fail
  refine (frame_lives _ L1).mono ?_
  rintro e W2 ⟨rfl, b2⟩
  have s2 := s1.below b2
  have B2 := b1.trans (b2.mono b1.size)
  have hgw : w.heap.size < W2.heap.size := s2.blk.lt
  clear s1 b1 b2 L1
  go_wp2_with (refine wpList_make_w _ rfl (.tmp 25) (.tmp 25) 59 rfl W2.heap.size 5 i0 (.int .u8 0) 1 Tryd.underlying59 hi hz0 hz1 .i64 .i64 _ _ N rfl rfl rfl rfl (by rw [hz2]; omega) (by unfold maxLen; omega) (Nat.le_refl _) ?_)
  intro W3 o3 gr3
  rw [toList_madeCells_one, replicate_vb] at o3
  have b3 : Below W2.heap.size W2 W3 := (Below.refl _ _).grown gr3 (Nat.le_refl _) (fun k hk => by cases hk)
  have hLn : (List.replicate N (255 : UInt8)).length = N := by simp
  obtain ⟨fs, hfs⟩ : ∃ fs, fs = List.replicate N (255 : UInt8) := ⟨_, rfl⟩
  rw [← hfs] at hLn
  have HFS := Lib.hid fun (_ : Unit) => hfs
  clear gr3 hfs
  generalize hg : W2.heap.size = g at *
  go_wp2_with fail
  go_loopw [5] (fun j wr => ∃ i : Nat, i ≤ N ∧ j = .int .i64 i ∧ wr.ownsRow g 5 1 (.slice (some ⟨g, 0, none⟩) N N) N ((fs.take i ++ List.replicate (fs.length - i) 0).map vb) ∧ Below g W2 wr) (fun j _ => N - (intOf j).toNat)
  case atStart => exact ⟨0, by omega, rfl, by rw [hLn]; simpa using o3, b3⟩
  case round =>
    obtain ⟨i, hiN, rfl, ho, hb⟩ := hrel
    by_cases hil : i < N
    case pos =>
      have i1 : (i : Int) < N := by omega
      have i2 : (0 : Int) ≤ (i : Int) := by omega
      have hc := ho.cellAt i (by omega)
      have hf := ho.frozenAt i
      have hv : fs[i]'(by omega) = 255 := by
        have := HFS.out ()
        subst this
        simp
      have hs := (ho.stored i (vb (fs[i]'(by omega)))).1
      rw [fill_vb fs i (by omega) _ rfl] at hs
      rw [hv] at hs
      have HS := Lib.hid fun (_ : Unit) => hs
      have hne : ((fs.take i ++ List.replicate (fs.length - i) 0).map vb)[i]? = some (vb 0) := by rw [List.getElem?_map, List.getElem?_append_right (by simp; omega), List.getElem?_replicate]; simp [hLn]; omega
      rw [hne] at hc
      clear hs hne ho hv
      go_wp2_with fail
      exact ⟨⟨i + 1, by omega, by simp, HS.out (), hb.setCell (p := ⟨g, i, none⟩) (Nat.le_refl _) _⟩, by simp [intOf]; omega⟩
    case neg =>
      obtain rfl : N = i := by omega
      have ho4 : wr.ownsRow g 5 1 (.slice (some ⟨g, 0, none⟩) N N) fs.length (fs.map vb) := by
        rw [List.take_of_length_le (Nat.le_of_eq hLn), hLn] at ho
        rw [hLn]
        simpa using ho
      have rd4 := own_reads1 ho
      rw [List.take_of_length_le (Nat.le_of_eq hLn), hLn, Nat.sub_self, List.replicate_zero, List.append_nil] at rd4
      have hb' : Below W2.heap.size W2 wr := by rw [hg]; exact hb
      have s4 := s2.below hb'
      have B4 := B2.trans (hb'.mono B2.size)
      clear ho ho4 hb hb' s2 o3 b3
      have k0 : ¬ (N : Int) < (N : Int) := by omega
      by_cases h65 : (65536 : Int) < (N : Int)
      case pos =>
        have F5 := Lib.hid fun (_ : Unit) => feed_full (some ⟨g, 0, none⟩) N N s4 (by simp) (by simp; omega)
        clear rd4
        go_wp2_with fail
        refine (F5.out ()).mono ?_
        rintro e W5 ⟨rfl, rfl⟩
        go_wp2_with fail
        refine (next_nobody _).mono ?_
        rintro e W6 ⟨rfl, b6⟩
        have s6 := s4.below b6
        have al := below_a2 W6 (.cells msgNone 61) (.cells noteNone 68)
        have s7 := s6.below al
        have B6 := B4.trans (b6.mono B4.size)
        have B7 := B6.trans (al.mono B6.size)
        unfold nobody msgNone noteNone at *
        clear F5 s4 s6 al B6 b6 B4
        go_wp2_with fail
        refine (feed_nobody _ _).mono ?_
        rintro e W8 ⟨rfl, rfl⟩
        go_wp2_with fail
        refine (len_nobody _).mono ?_
        rintro e W8 ⟨rfl, rfl⟩
        go_wp2_with fail
        refine (len_strm s7).mono ?_
        rintro e W8 ⟨rfl, rfl⟩
        go_wp2_with fail
        go_ret
        exact ⟨rfl, B7⟩
      case neg =>
        have F5 := Lib.hid fun (_ : Unit) => feed_ok (some ⟨g, 0, none⟩) N fs _ s4 (by simp; omega) rd4
        rw [hLn] at F5
        have ht4 := turns_ge s4
        clear rd4
        go_wp2_with fail
        refine (F5.out ()).mono ?_
        rintro e W5 ⟨v5, rfl, hf5⟩
        have s5 : Strm w.heap.size W5 w.heap.size v5 fs 0 0 (.slice none 0 0) := hf5.s
        have B5 : Below w.heap.size w W5 := B4.trans (hf5.only.below B4.size ht4)
        clear F5 hf5 ht4 s4 B4
        go_wp2_with fail
        refine (next_nobody _).mono ?_
        rintro e W6 ⟨rfl, b6⟩
        have s6 := s5.below b6
        have al := below_a2 W6 (.cells msgNone 61) (.cells noteNone 68)
        have s7 := s6.below al
        have B6 := B5.trans (b6.mono B5.size)
        have B7 := B6.trans (al.mono B6.size)
        have g7 : w.heap.size ≤ W6.heap.size := B6.size
        unfold nobody msgNone noteNone at *
        clear s5 s6 al B6 b6 B5
        go_wp2_with fail
        refine (feed_nobody _ _).mono ?_
        rintro e W8 ⟨rfl, rfl⟩
        go_wp2_with fail
        refine (len_nobody _).mono ?_
        rintro e W8 ⟨rfl, rfl⟩
        go_wp2_with fail
        refine (len_strm s7).mono ?_
        rintro e W8 ⟨rfl, rfl⟩
        rw [hLn]
        obtain ⟨M, hM⟩ : ∃ M, M = 65536 - N := ⟨_, rfl⟩
        have e1 : IntKind.i64.wrap ((65536 : Int) - (N : Int)) = (M : Int) := by rw [IntWalk.i64_in _ (by omega)]; omega
        have hM6 : M ≤ 65536 := by omega
        have hMN : fs.length + M = 65536 := by omega
        have HMN := Lib.hid fun (_ : Unit) => hMN
        clear hM hMN
        generalize hX : (W6.alloc (.cells #[.int .i64 0, .slice none 0 0] 61)).alloc (.cells #[.int .i64 0, .int .i64 0, .slice none 0 0] 68) = X at s7 B7 ⊢
        clear hX
        have hNN : ((N : Int) == (N : Int)) = true := by simp
        go_wp2_with (refine wpList_make_w _ (by rfl) (.tmp 76) (.tmp 76) 59 rfl X.heap.size 5 i0 (.int .u8 0) 1 Tryd.underlying59 hi hz0 hz1 .i64 .i64 _ _ M (by rfl) (by rfl) rfl rfl (by rw [hz2]; omega) (by unfold maxLen; omega) (Nat.le_refl _) ?_)
        intro W9 o9 gr9
        rw [toList_madeCells_one, replicate_vb] at o9
        have b9 : Below X.heap.size X W9 := (Below.refl _ _).grown gr9 (Nat.le_refl _) (fun k hk => by cases hk)
        have s9 := s7.below b9
        have B9 := B7.trans (b9.mono B7.size)
        have F10 := Lib.hid fun (_ : Unit) => feed_ok (some ⟨X.heap.size, 0, none⟩) M (List.replicate M (0 : UInt8)) _ s9 (by simp; have := HMN.out (); omega) (show Reads W9 (fun _ => True) _ _ from own_reads1 o9)
        rw [List.length_replicate] at F10
        have ht9 := turns_ge s9
        clear o9 gr9 b9 s7 B7
        go_wp2_with fail
        refine (F10.out ()).mono ?_
        rintro e W10 ⟨v10, rfl, hf10⟩
        have s10 := hf10.s
        have B10 : Below w.heap.size w W10 := B9.trans (hf10.only.below B9.size ht9)
        have al10 := below_a1 W10 (.cells #[.int .u8 1] 5)
        have s11 := s10.below al10
        have B11 := B10.trans (al10.mono B10.size)
        have F11 := Lib.hid fun (_ : Unit) => feed_full (some ⟨W10.heap.size, 0, none⟩) 1 1 s11 (by simp; have := HMN.out (); omega) (by simp; have := HMN.out (); omega)
        clear F10 hf10 ht9 s9 B9 s10 al10 B10
        go_wp2_with fail
        refine (F11.out ()).mono ?_
        rintro e W12 ⟨rfl, rfl⟩
        go_wp2_with fail
        go_ret
        exact ⟨rfl, B11⟩
end Go.Proofs.YteokhnkipandbaaDoor
