/-
  The queue's New, Put, Take, Clear, All, Len and Room at a queue's whole state, and at nil. No condition.
-/
import Derived.Test.YtifiabhoeagblaaQueuePut
namespace Go.Proofs.Ytifiabhoeagblaa
open Go.ChangeShapes Go.WideShapes Go.ChangeAt Go.RowKit

/-- a queue: its blocks lie in F, all of them in memory -/
def QS (w : World) (F : Nat → Prop) (qb : Nat) (bs : List UInt8) (room : Nat) : Prop := (∃ A R c p rs, IsQ w F qb bs room A R c p rs) ∧ ∀ k, F k → k < w.heap.size
theorem QS.of {w : World} {F : Nat → Prop} {qb : Nat} {bs : List UInt8} {room : Nat} {A : Option Addr} {R c p : Nat} {rs : List UInt8} (h : IsQ w F qb bs room A R c p rs) : QS w (fun k => F k ∧ k < w.heap.size) qb bs room :=
  ⟨⟨A, R, c, p, rs, h.q, h.rl, h.rc, h.ring.imp id fun ⟨rb, e, h1, h2⟩ => ⟨rb, e, h1, h2, h1.lt⟩, h.le, h.lr, h.lm, h.alt, h.alt', h.val, h.fq, h.q.lt⟩, fun _ hk => hk.2⟩
theorem QS.only {w w' : World} {F S : Nat → Prop} {qb : Nat} {bs : List UInt8} {room : Nat} (h : QS w F qb bs room) (ho : Only S w w') (hd : ∀ k, F k → ¬ S k) : QS w' F qb bs room := by
  obtain ⟨⟨A, R, c, p, rs, hQ⟩, hF⟩ := h
  exact ⟨⟨A, R, c, p, rs, hQ.ofBlks F (fun k hk hf => ho.block k hk (hd k hf)) fun _ h => h⟩, fun k hk => Nat.lt_of_lt_of_le (hF k hk) ho.size⟩
theorem QS.below {w w' : World} {F : Nat → Prop} {qb : Nat} {bs : List UInt8} {room : Nat} (h : QS w F qb bs room) (hb : Below w.heap.size w w') : QS w' F qb bs room := h.only (S := fun _ => False) (Only.of_below hb) (fun _ _ h => h)
theorem QS.le {w : World} {F : Nat → Prop} {qb : Nat} {bs : List UInt8} {room : Nat} (h : QS w F qb bs room) : bs.length ≤ room ∧ room ≤ 65536 := by
  obtain ⟨⟨A, R, c, p, rs, hQ⟩, _⟩ := h
  exact ⟨Nat.le_trans hQ.le hQ.lr, hQ.lm⟩

/-- whether bytes fit, and what a queue holds behind a Put -/
def putB (room : Nat) (bs b : List UInt8) : Bool := decide (bs.length + b.length ≤ room)
def putL (room : Nat) (bs b : List UInt8) : List UInt8 := if bs.length + b.length ≤ room then bs ++ b else bs

theorem q_new_bad (n : Int) (w : World) (h : n < 0 ∨ 65536 < n) :
    Calls Try.prog 19 #[.int .i64 n] w fun e w' => e = .returned (.tuple #[.pointer none, .int .i64 1]) ∧ w = w' := by
  rcases h with h | h
  · go_enter Try.func19, Try.ntmps19
    go_wp2
    go_ret2
    exact ⟨rfl, rfl⟩
  · have h' : ¬ n < 0 := by omega
    go_enter Try.func19, Try.ntmps19
    go_wp2
    go_ret2
    exact ⟨rfl, rfl⟩
theorem q_new_ok (n : Nat) (w : World) (h : n ≤ 65536) :
    Calls Try.prog 19 #[.int .i64 n] w fun e w' => e = .returned (.tuple #[.pointer (some ⟨w.heap.size, 0, none⟩), .int .i64 0]) ∧ QS w' (· = w.heap.size) w.heap.size [] n ∧ Below w.heap.size w w' := by
  have h0 : ¬ (n : Int) < 0 := by omega
  have h1 : (n : Int) ≤ 65536 := by omega
  go_enter Try.func19, Try.ntmps19
  go_wp2
  go_ret2
  refine ⟨rfl, ⟨⟨none, 0, 0, 0, [], Blk.new _ _ _, rfl, Nat.le_refl _, .inl rfl, by simp, by omega, h, Nat.le_refl _, fun h => by omega, fun i hi => by simp at hi, rfl⟩, fun k hk => ?_⟩, (Below.refl _ _).alloc (Nat.le_refl _) _⟩
  subst hk; simp

theorem q_put_nil (v : Value) (w : World) : Calls Try.prog 22 #[.pointer none, v] w fun e w' => e = .returned (.bool false) ∧ w = w' := by
  go_enter Try.func22, Try.ntmps22
  go_wp2
  go_ret
  exact ⟨rfl, rfl⟩
theorem q_len_nil (w : World) : Calls Try.prog 27 #[.pointer none] w fun e w' => e = .returned (.int .i64 0) ∧ w = w' := by
  go_enter Try.func27, Try.ntmps27
  go_wp2
  go_ret
  exact ⟨rfl, rfl⟩
theorem q_room_nil (w : World) : Calls Try.prog 28 #[.pointer none] w fun e w' => e = .returned (.int .i64 0) ∧ w = w' := by
  go_enter Try.func28, Try.ntmps28
  go_wp2
  go_ret
  exact ⟨rfl, rfl⟩
theorem q_all_nil (w : World) : Calls Try.prog 29 #[.pointer none] w fun e w' => e = .returned (.slice none 0 0) ∧ w = w' := by
  go_enter Try.func29, Try.ntmps29
  go_wp2_with (go_at_call 27; refine (q_len_nil _).mono ?_; rintro e w' ⟨rfl, rfl⟩)
  go_ret
  exact ⟨rfl, rfl⟩
theorem q_take_nil (n : Int) (w : World) : Calls Try.prog 24 #[.pointer none, .int .i64 n] w fun e w' => e = .returned (.slice none 0 0) ∧ w = w' := by
  by_cases hn : n < 0
  · go_enter Try.func24, Try.ntmps24
    go_wp2_with (go_at_call 27; refine (q_len_nil _).mono ?_; rintro e w' ⟨rfl, rfl⟩)
    go_ret
    exact ⟨rfl, rfl⟩
  · by_cases hn0 : 0 < n
    · go_enter Try.func24, Try.ntmps24
      go_wp2_with (go_at_call 27; refine (q_len_nil _).mono ?_; rintro e w' ⟨rfl, rfl⟩)
      go_ret
      exact ⟨rfl, rfl⟩
    · obtain rfl : n = 0 := by omega
      go_enter Try.func24, Try.ntmps24
      go_wp2_with (go_at_call 27; refine (q_len_nil _).mono ?_; rintro e w' ⟨rfl, rfl⟩)
      go_ret
      exact ⟨rfl, rfl⟩
theorem q_clear_nil (w : World) : Calls Try.prog 26 #[.pointer none] w fun e w' => e = .returned (.int .i64 0) ∧ w = w' := by
  go_enter Try.func26, Try.ntmps26
  go_wp2_with (first | (go_at_call 27; refine (q_len_nil _).mono ?_; rintro e w' ⟨rfl, rfl⟩) | (go_at_call 24; refine (q_take_nil _ _).mono ?_; rintro e w' ⟨rfl, rfl⟩))
  go_ret
  exact ⟨rfl, rfl⟩

section
variable {w w' : World} {F : Nat → Prop} {qb : Nat} {bs : List UInt8} {room : Nat}

set_option maxHeartbeats 400000 in
theorem q_put (hQ : QS w F qb bs room) (G : Nat → Prop) (Ab : Option Addr) (cb : Nat) (b : List UInt8) (hb : Reads w G Ab (b.map vb)) (hG : ∀ k, G k → ¬ F k) :
    Calls Try.prog 22 #[.pointer (some ⟨qb, 0, none⟩), .slice Ab b.length cb] w fun e w' => e = .returned (.bool (putB room bs b)) ∧
      ∃ F' : Nat → Prop, (∀ k, F' k → F k ∨ w.heap.size ≤ k) ∧ QS w' F' qb (putL room bs b) room ∧ Only F w w' := by
  obtain ⟨⟨A, R, c, p, rs, hI⟩, hF⟩ := hQ
  by_cases hfit : bs.length + b.length ≤ room
  · refine (q_put_core hI G Ab cb b hb hG hfit).mono ?_
    rintro e w' ⟨rfl, F', A', R', c', p', rs', hF', hq', ho⟩
    refine ⟨by simp [hfit, putB], fun k => F' k ∧ k < w'.heap.size, fun k hk => hF' k hk.1, ?_, ho⟩
    rw [putL, if_pos hfit]
    exact QS.of hq'
  · have hc4 := hI.q.cell 4
    simp at hc4
    have h1 := hI.le
    have h2 := hI.lr
    have h3 := hI.lm
    have hlt : (room : Int) - (bs.length : Int) < (b.length : Int) := by omega
    have H := Lib.hid (show putB room bs b = false from by simpa [putB] using hfit)
    have H2 := Lib.hid (show putL room bs b = bs from if_neg hfit)
    clear hfit
    go_enter Try.func22, Try.ntmps22
    go_wp2_with fail
    refine (q_room hI).mono ?_
    rintro e w1 ⟨rfl, k1, rfl⟩
    go_wp2_with fail
    go_ret
    exact ⟨by rw [H.out]; rfl, F, fun k hk => .inl hk, by rw [H2.out]; exact ⟨⟨A, R, c, p, rs, hI.drewN _⟩, hF⟩, (Only.refl _ _).drewN _⟩

theorem qs_len (hQ : QS w F qb bs room) : Calls Try.prog 27 #[.pointer (some ⟨qb, 0, none⟩)] w fun e w' => e = .returned (.int .i64 bs.length) ∧ w = w' := by
  obtain ⟨⟨A, R, c, p, rs, hI⟩, hF⟩ := hQ
  exact q_len hI
theorem qs_room (hQ : QS w F qb bs room) : Calls Try.prog 28 #[.pointer (some ⟨qb, 0, none⟩)] w fun e w' => e = .returned (.int .i64 ((room : Int) - bs.length)) ∧ ∃ k, w' = w.drewN k := by
  obtain ⟨⟨A, R, c, p, rs, hI⟩, hF⟩ := hQ
  exact q_room hI

theorem qs_all (hQ : QS w F qb bs room) : Calls Try.prog 29 #[.pointer (some ⟨qb, 0, none⟩)] w fun e w' =>
    ∃ v, e = .returned v ∧ w'.ownsRow w.heap.size 5 1 v bs.length (bs.map vb) ∧ Below w.heap.size w w' := by
  obtain ⟨⟨A, R, c, p, rs, hI⟩, hF⟩ := hQ
  have hc2 := hI.q.cell 2
  simp at hc2
  by_cases h0 : bs.length = 0
  · obtain rfl : bs = [] := List.eq_nil_of_length_eq_zero h0
    go_enter Try.func29, Try.ntmps29
    go_wp2_with fail
    refine (q_len hI).mono ?_
    rintro e w1 ⟨rfl, rfl⟩
    go_wp2_with fail
    go_ret
    exact ⟨_, rfl, own_nil _ _ _ _, Below.refl _ _⟩
  · have h0' : ((bs.length : Int) == 0) = false := by simpa using h0
    go_enter Try.func29, Try.ntmps29
    go_wp2_with fail
    refine (q_len hI).mono ?_
    rintro e w1 ⟨rfl, rfl⟩
    go_wp2_with fail
    refine (q_look hI bs.length (Nat.le_refl _)).mono ?_
    rintro e w1 ⟨v, rfl, hown, hb⟩
    rw [List.take_length] at hown
    go_wp2_with fail
    go_ret
    exact ⟨v, rfl, hown, hb⟩

theorem IsQ.drew {A : Option Addr} {R c p : Nat} {rs : List UInt8} (h : IsQ w F qb bs room A R c p rs) : IsQ w.drew F qb bs room A R c p rs := h.ofBlks F (fun _ _ _ => rfl) fun _ h => h
/-- how many are taken -/
def takeN (n : Int) (len : Nat) : Nat := (min (max n 0) (len : Int)).toNat
theorem takeN_all (len : Nat) : takeN len len = len := by simp only [takeN]; omega
theorem takeN_le (n : Int) (len : Nat) : takeN n len ≤ len := by simp only [takeN]; omega

set_option maxHeartbeats 1000000 in
theorem q_take (hQ : QS w F qb bs room) (n : Int) :
    Calls Try.prog 24 #[.pointer (some ⟨qb, 0, none⟩), .int .i64 n] w fun e w' => ∃ v, e = .returned v ∧
      w'.ownsRow w.heap.size 5 1 v (takeN n bs.length) ((bs.take (takeN n bs.length)).map vb) ∧ QS w' F qb (bs.drop (takeN n bs.length)) room ∧ Only F w w' := by
  obtain ⟨⟨A, R, c, p, rs, hI⟩, hF⟩ := hQ
  have h1 := hI.le
  have h2 := hI.lr
  have h3 := hI.lm
  obtain ⟨m, hm⟩ : ∃ m, takeN n bs.length = m := ⟨_, rfl⟩
  have hmle : m ≤ bs.length := by simp only [takeN] at hm; omega
  rw [hm]
  by_cases hm0 : m = 0
  · subst hm0
    rw [List.take_zero, List.drop_zero]
    have hfin : QS w F qb bs room := ⟨⟨A, R, c, p, rs, hI⟩, hF⟩
    have HF := Lib.hid hfin
    by_cases hn : n < 0
    · clear hm hfin
      go_enter Try.func24, Try.ntmps24
      go_wp2_with (go_at_call 27; refine (q_len hI).mono ?_; rintro e w' ⟨rfl, rfl⟩)
      go_ret
      exact ⟨_, rfl, own_nil _ _ _ _, HF.out, Only.refl _ _⟩
    · by_cases hn0 : n = 0
      · subst hn0
        clear hm hfin
        go_enter Try.func24, Try.ntmps24
        go_wp2_with (go_at_call 27; refine (q_len hI).mono ?_; rintro e w' ⟨rfl, rfl⟩)
        go_ret
        exact ⟨_, rfl, own_nil _ _ _ _, HF.out, Only.refl _ _⟩
      · have hl0 : bs.length = 0 := by simp only [takeN] at hm; omega
        have hn' : 0 < n := by omega
        obtain rfl : bs = [] := List.eq_nil_of_length_eq_zero hl0
        clear hm hfin hl0
        go_enter Try.func24, Try.ntmps24
        go_wp2_with (go_at_call 27; refine (q_len hI).mono ?_; rintro e w' ⟨rfl, rfl⟩)
        go_ret
        exact ⟨_, rfl, own_nil _ _ _ _, HF.out, Only.refl _ _⟩
  · have hR0 : 0 < R := by omega
    have hpR := hI.alt' hR0
    have hmm : ((m : Int) == 0) = false := by simpa using hm0
    have hn0 : 0 < n := by simp only [takeN] at hm; omega
    obtain ⟨rb, rfl, hrb, hFrb⟩ : ∃ rb, A = some ⟨rb, 0, none⟩ ∧ Blk w rb 5 (rs.map vb).toArray ∧ F rb := by
      rcases hI.ring with h0 | h0
      · omega
      · exact h0
    have hne : rb ≠ qb := hrb.ne_ hI.q (by decide)
    have hcase : (n = (m : Int) ∧ ¬ ((bs.length : Int) < (m : Int))) ∨ ((bs.length : Int) < n ∧ m = bs.length) := by simp only [takeN] at hm; omega
    have e0 : ((p : Int) + (m : Int)).tmod (R : Int) = (((p + m) % R : Nat) : Int) := by
      rw [← Int.natCast_add, ← Int.ofNat_tmod]
    have hml : (p + m) % R < R := Nat.mod_lt _ hR0
    have hval := Vals.drop (show Vals rs p R bs from hI.val) m
    have hs1 : IntKind.i64.wrap ((p : Int) + (m : Int)) = (p : Int) + (m : Int) := IntWalk.i64_in _ (by omega)
    have hs2 : IntKind.i64.wrap ((bs.length : Int) - (m : Int)) = (bs.length : Int) - (m : Int) := IntWalk.i64_in _ (by omega)
    generalize (p + m) % R = p2 at e0 hml hval
    have e2 : IntKind.i64.wrap (p2 : Int) = (p2 : Int) := IntWalk.i64_in _ (by omega)
    have e3 : ((R : Int) == 0) = false := by simp; omega
    have e4 : ¬ R = 0 := by omega
    have HV := Lib.hid hval
    clear hval hm
    rcases hcase with ⟨rfl, hlt⟩ | ⟨hlt, hml2⟩
    · have hlt2 : (m : Int) ≤ (bs.length : Int) := by omega
      go_enter Try.func24, Try.ntmps24
      go_wp2_with fail
      refine (q_len hI).mono ?_
      rintro e w' ⟨rfl, rfl⟩
      go_wp2_with fail
      refine (q_look hI m hmle).mono ?_
      rintro e w1 ⟨v, rfl, hown, hb⟩
      have hq1 := hI.q.below hb hI.q.lt
      have hr1 := hrb.below hb hrb.lt
      have hc0 := hq1.cell 0
      have hc1 := hq1.cell 1
      have hc2 := hq1.cell 2
      have hf1 := hq1.frozen 1
      have hf2 := hq1.frozen 2
      simp at hc0 hc1 hc2
      have hd1 : (m : Int) ≤ (bs.length : Int) := by omega
      have hq2 : Blk ((w1.setCell ⟨qb, 1, none⟩ (.int .i64 p2)).setCell ⟨qb, 2, none⟩ (.int .i64 ((bs.length : Int) - (m : Int)))) qb 84 #[.slice (some ⟨rb, 0, none⟩) R c, .int .i64 p2, .int .i64 (bs.drop m).length, .int .i64 room, .bool true] := by
        have := (hq1.set_ 1 (.int .i64 p2)).set_ 2 (.int .i64 ((bs.length : Int) - (m : Int)))
        rw [show (((bs.drop m).length : Nat) : Int) = (bs.length : Int) - (m : Int) from by rw [List.length_drop]; omega]
        simpa using this
      have hr2 := (hr1.far (p := ⟨qb, 1, none⟩) (by simpa using hne) (.int .i64 p2)).far (p := ⟨qb, 2, none⟩) (by simpa using hne) (.int .i64 ((bs.length : Int) - (m : Int)))
      have hfin : IsQ ((w1.setCell ⟨qb, 1, none⟩ (.int .i64 p2)).setCell ⟨qb, 2, none⟩ (.int .i64 ((bs.length : Int) - (m : Int)))) F qb (bs.drop m) room (some ⟨rb, 0, none⟩) R c p2 rs :=
        ⟨hq2, hI.rl, hI.rc, .inr ⟨rb, rfl, hr2, hFrb⟩, by simp; omega, h2, h3, by omega, fun _ => hml, HV.out, hI.fq⟩
      have hfr : ∀ k, F k → k < ((w1.setCell ⟨qb, 1, none⟩ (.int .i64 p2)).setCell ⟨qb, 2, none⟩ (.int .i64 ((bs.length : Int) - (m : Int)))).heap.size := fun k hk => by
        have := hF k hk
        have := hb.size
        simp
        omega
      have hoF : Only F w ((w1.setCell ⟨qb, 1, none⟩ (.int .i64 p2)).setCell ⟨qb, 2, none⟩ (.int .i64 ((bs.length : Int) - (m : Int)))) :=
        ((Only.of_below hb).setCell (p := ⟨qb, 1, none⟩) (fun _ => hI.fq) _).setCell (p := ⟨qb, 2, none⟩) (fun _ => hI.fq) _
      have how : ((w1.setCell ⟨qb, 1, none⟩ (.int .i64 p2)).setCell ⟨qb, 2, none⟩ (.int .i64 ((bs.length : Int) - (m : Int)))).ownsRow w.heap.size 5 1 v m ((bs.take m).map vb) :=
        ownsRow_setCell_below (ownsRow_setCell_below hown (a := ⟨qb, 1, none⟩) hI.q.lt _) (a := ⟨qb, 2, none⟩) hI.q.lt _
      have HF := Lib.hid hfin
      have HO := Lib.hid how
      clear hq1 hr1 hq2 hr2 hfin how hown hb
      go_wp2_with fail
      go_still_tail 15, (by kernel_rfl)
      go_wp2_with fail
      go_ret
      exact ⟨v, rfl, HO.out, ⟨⟨_, _, _, _, _, HF.out.drew⟩, hfr⟩, hoF.drew⟩
    · subst hml2
      go_enter Try.func24, Try.ntmps24
      go_wp2_with fail
      refine (q_len hI).mono ?_
      rintro e w' ⟨rfl, rfl⟩
      go_wp2_with fail
      refine (q_look hI bs.length hmle).mono ?_
      rintro e w1 ⟨v, rfl, hown, hb⟩
      have hq1 := hI.q.below hb hI.q.lt
      have hr1 := hrb.below hb hrb.lt
      have hc0 := hq1.cell 0
      have hc1 := hq1.cell 1
      have hc2 := hq1.cell 2
      have hf1 := hq1.frozen 1
      have hf2 := hq1.frozen 2
      simp at hc0 hc1 hc2
      have hd1 : (bs.length : Int) ≤ (bs.length : Int) := by omega
      have hq2 : Blk ((w1.setCell ⟨qb, 1, none⟩ (.int .i64 p2)).setCell ⟨qb, 2, none⟩ (.int .i64 0)) qb 84 #[.slice (some ⟨rb, 0, none⟩) R c, .int .i64 p2, .int .i64 (bs.drop bs.length).length, .int .i64 room, .bool true] := by
        have := (hq1.set_ 1 (.int .i64 p2)).set_ 2 (.int .i64 0)
        rw [show (((bs.drop bs.length).length : Nat) : Int) = 0 from by simp]
        simpa using this
      have hr2 := (hr1.far (p := ⟨qb, 1, none⟩) (by simpa using hne) (.int .i64 p2)).far (p := ⟨qb, 2, none⟩) (by simpa using hne) (.int .i64 0)
      have hfin : IsQ ((w1.setCell ⟨qb, 1, none⟩ (.int .i64 p2)).setCell ⟨qb, 2, none⟩ (.int .i64 0)) F qb (bs.drop bs.length) room (some ⟨rb, 0, none⟩) R c p2 rs :=
        ⟨hq2, hI.rl, hI.rc,   .inr ⟨rb, rfl, hr2, hFrb⟩, by simp, h2, h3, by omega, fun _ => hml, HV.out, hI.fq⟩
      have hfr : ∀ k, F k → k < ((w1.setCell ⟨qb, 1, none⟩ (.int .i64 p2)).setCell ⟨qb, 2, none⟩ (.int .i64 0)).heap.size := fun k hk => by
        have := hF k hk
        have := hb.size
        simp
        omega
      have hoF : Only F w ((w1.setCell ⟨qb, 1, none⟩ (.int .i64 p2)).setCell ⟨qb, 2, none⟩ (.int .i64 0)) :=
        ((Only.of_below hb).setCell (p := ⟨qb, 1, none⟩) (fun _ => hI.fq) _).setCell (p := ⟨qb, 2, none⟩) (fun _ => hI.fq) _
      have how : ((w1.setCell ⟨qb, 1, none⟩ (.int .i64 p2)).setCell ⟨qb, 2, none⟩ (.int .i64 0)).ownsRow w.heap.size 5 1 v bs.length ((bs.take bs.length).map vb) :=
        ownsRow_setCell_below (ownsRow_setCell_below hown (a := ⟨qb, 1, none⟩) hI.q.lt _) (a := ⟨qb, 2, none⟩) hI.q.lt _
      have HF := Lib.hid hfin
      have HO := Lib.hid how
      clear hq1 hr1 hq2 hr2 hfin how hown hb
      go_wp2_with fail
      go_still_tail 15, (by kernel_rfl)
      go_wp2_with fail
      go_ret
      exact ⟨v, rfl, HO.out, ⟨⟨_, _, _, _, _, HF.out.drew⟩, hfr⟩, hoF.drew⟩

theorem own_len {w : World} {B : Nat} {e : TypeId} {size n : Nat} {v : Value} {xs : List Value} (h : w.ownsRow B e size v n xs) : ∃ A c, v = .slice A n c := by
  rcases h.2 with ⟨rfl, rfl⟩ | ⟨g, cap, cur, hv, _⟩
  · exact ⟨_, _, rfl⟩
  · exact ⟨_, _, hv⟩

theorem q_clear (hQ : QS w F qb bs room) : Calls Try.prog 26 #[.pointer (some ⟨qb, 0, none⟩)] w fun e w' => e = .returned (.int .i64 bs.length) ∧ QS w' F qb [] room ∧ Only F w w' := by
  have ht := takeN_all bs.length
  have H := Lib.hid ht
  clear ht
  go_enter Try.func26, Try.ntmps26
  go_wp2_with fail
  refine (qs_len hQ).mono ?_
  rintro e w1 ⟨rfl, rfl⟩
  go_wp2_with fail
  refine (q_take hQ _).mono ?_
  rintro e w1 ⟨v, rfl, hown, hq, ho⟩
  rw [H.out] at hown hq
  rw [List.drop_length] at hq
  obtain ⟨A, c, rfl⟩ := own_len hown
  go_wp2_with fail
  go_ret
  exact ⟨rfl, hq, ho⟩
end
end Go.Proofs.Ytifiabhoeagblaa
