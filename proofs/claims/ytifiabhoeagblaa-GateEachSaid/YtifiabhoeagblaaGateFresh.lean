/-
  Whether inputs are fresh: the gate's inTime, up, heard and Fresh, one contract each, at any lists that read as data. No condition but that numbers fit an int.
-/
import Derived.Test.YtifiabhoeagblaaKit
import Derived.Test.YtifiabhoeagblaaChecked
import Derived.LoopTactic
namespace Go.Proofs.Ytifiabhoeagblaa
open Go.ChangeShapes Go.WideShapes Go.ChangeAt Go.RowKit

/-- heard in time? -/
def inT (a : Int) (i : Bool) (stale now : Int) : Bool := i && decide (0 ≤ a) && decide (a ≤ now) && decide (now - a ≤ stale)

theorem in_time (a : Int) (i : Bool) (stale now : Int) (w : World) (hn : now ≤ 9223372036854775807) :
    Calls Try.prog 41 #[.agg #[.int .i64 a, .bool i], .int .i64 stale, .int .i64 now] w fun e w' =>
      e = .returned (.bool (inT a i stale now)) ∧ w.alloc (.cells #[.int .i64 a, .bool i] 46) = w' := by
  have hres : inT a i stale now = (i && decide (0 ≤ a) && decide (a ≤ now) && decide (now - a ≤ stale)) := rfl
  have H := Lib.hid hres
  clear hres
  cases i
  · go_enter Try.func41, Try.ntmps41
    go_wp2
    go_ret
    exact ⟨by rw [H.out]; rfl, rfl⟩
  · by_cases h0 : 0 ≤ a
    · by_cases h1 : a ≤ now
      · by_cases h2 : now - a ≤ stale
        all_goals
          go_enter Try.func41, Try.ntmps41
          go_wp2
          go_ret
          exact ⟨by rw [H.out]; simp [*], rfl⟩
      · go_enter Try.func41, Try.ntmps41
        go_wp2
        go_ret
        exact ⟨by rw [H.out]; simp; omega, rfl⟩
    · go_enter Try.func41, Try.ntmps41
      go_wp2
      go_ret
      exact ⟨by rw [H.out]; simp; omega, rfl⟩

/-- are the first sessions established? -/
def upL (l : List Bool) (n : Int) : Bool := decide (n ≤ l.length) && (l.take n.toNat).all id
theorem take_all_false {l : List Bool} {k m : Nat} (hk : k < l.length) (hm : k < m) (h : l[k] = false) : (l.take m).all id = false := by
  rw [List.all_eq_false]
  exact ⟨l[k], List.mem_take_iff_getElem.2 ⟨k, by omega, rfl⟩, by simp [h]⟩
theorem take_all_succ {l : List Bool} {k : Nat} (hk : k < l.length) (h : (l.take k).all id = true) (h1 : l[k] = true) : (l.take (k + 1)).all id = true := by
  rw [List.take_succ_eq_append_getElem hk, List.all_append, h]
  simp [h1]

set_option maxHeartbeats 400000 in
theorem up_any (A : Option Addr) (c : Nat) (l : List Bool) (n : Int) (F : Nat → Prop) (w : World) (hl : l.length ≤ 9223372036854775807) (hr : Reads w F A (l.map Value.bool)) :
    Calls Try.prog 35 #[.slice A l.length c, .int .i64 n] w fun e w' => e = .returned (.bool (upL l n)) ∧ w = w' := by
  by_cases h0 : (l.length : Int) < n
  · have hres : upL l n = false := by simp [upL]; omega
    have H := Lib.hid hres
    clear hres hr
    go_enter Try.func35, Try.ntmps35
    go_wp2
    go_ret
    exact ⟨by rw [H.out]; rfl, rfl⟩
  · go_enter Try.func35, Try.ntmps35
    go_wp2
    go_loop [11] (fun i => ∃ k : Nat, (k : Int) ≤ max n 0 ∧ (l.take k).all id = true ∧ i = .int .i64 k) (fun i => l.length - (intOf i).toNat)
    case atStart => exact ⟨0, by omega, by simp, rfl⟩
    case round =>
      obtain ⟨k, hk, hall, rfl⟩ := hrel
      by_cases hlt : (k : Int) < n
      · have hkl : k < l.length := by omega
        obtain ⟨b, off, rfl, _, _, hc⟩ := hr.at_ (k := k) (by simpa using hkl)
        simp only [List.getElem_map] at hc
        cases hb : l[k]
        · have hres : upL l n = false := by
            have := take_all_false hkl (m := n.toNat) (by omega) hb
            simp [upL, this]
          rw [hb] at hc
          have H := Lib.hid hres
          clear hres hr hb hall
          go_wp2
          go_ret
          exact ⟨by rw [H.out]; rfl, rfl⟩
        · have hs := Lib.hid (take_all_succ hkl hall hb)
          rw [hb] at hc
          clear hr hb hall
          go_wp2
          go_round
          case rel => exact ⟨k + 1, by omega, hs.out, by go_num⟩
          case measure => simp [intOf]; omega
      · have hres : upL l n = true := by
          have e : n.toNat = k := by omega
          simp [upL, e]
          exact ⟨by omega, by simpa using hall⟩
        have H := Lib.hid hres
        clear hres hr hall
        go_wp2
        go_ret
        exact ⟨by rw [H.out]; rfl, rfl⟩

/-- was each of the first sources heard in time? -/
def heardL (l : List (Int × Bool)) (n stale now : Int) : Bool := decide (n ≤ l.length) && (l.take n.toNat).all fun s => inT s.1 s.2 stale now
/-- the cells of a list of stamps -/
def stampCells : List (Int × Bool) → List Value
  | [] => []
  | s :: r => .int .i64 s.1 :: .bool s.2 :: stampCells r
theorem stampCells_length (l : List (Int × Bool)) : (stampCells l).length = 2 * l.length := by
  induction l with
  | nil => rfl
  | cons s r ih => simp [stampCells, ih]; omega
theorem stampCells_at (l : List (Int × Bool)) : ∀ (k : Nat) (h : k < l.length), (stampCells l)[2 * k]? = some (.int .i64 (l[k]'h).1) ∧ (stampCells l)[2 * k + 1]? = some (.bool (l[k]'h).2) := by
  induction l with
  | nil => intro k h; simp at h
  | cons s r ih =>
    intro k h
    cases k with
    | zero => simp [stampCells]
    | succ k =>
      have := ih k (by simpa using h)
      have e : 2 * (k + 1) = 2 * k + 1 + 1 := by omega
      rw [e]
      simpa [stampCells] using this
theorem heard_false {l : List (Int × Bool)} {n stale now : Int} {k : Nat} (hk : k < l.length) (hn : (k : Int) < n) (h : inT l[k].1 l[k].2 stale now = false) : heardL l n stale now = false := by
  have : (l.take n.toNat).all (fun s => inT s.1 s.2 stale now) = false := by
    rw [List.all_eq_false]
    exact ⟨l[k], List.mem_take_iff_getElem.2 ⟨k, by omega, rfl⟩, by simp [h]⟩
  simp [heardL, this]
theorem heard_succ {l : List (Int × Bool)} {stale now : Int} {k : Nat} (hk : k < l.length) (h : ((l.take k).all fun s => inT s.1 s.2 stale now) = true) (h1 : inT l[k].1 l[k].2 stale now = true) :
    ((l.take (k + 1)).all fun s => inT s.1 s.2 stale now) = true := by
  rw [List.take_succ_eq_append_getElem hk, List.all_append, h]
  simp [h1]

set_option maxHeartbeats 400000 in
theorem heard_any (A : Option Addr) (c : Nat) (l : List (Int × Bool)) (n stale now : Int) (F : Nat → Prop) (w : World) (hnow : now ≤ 9223372036854775807) (hl : l.length ≤ 9223372036854775807) (hr : Reads w F A (stampCells l)) :
    Calls Try.prog 36 #[.slice A l.length c, .int .i64 n, .int .i64 stale, .int .i64 now] w fun e w' => e = .returned (.bool (heardL l n stale now)) ∧ Below w.heap.size w w' := by
  by_cases h0 : (l.length : Int) < n
  · have hres : heardL l n stale now = false := by simp [heardL]; omega
    have H := Lib.hid hres
    clear hres hr
    go_enter Try.func36, Try.ntmps36
    go_wp2
    go_ret
    exact ⟨by rw [H.out]; rfl, Below.refl _ _⟩
  · go_enter Try.func36, Try.ntmps36
    go_wp2
    go_loopw [15] (fun i wr => ∃ k : Nat, (k : Int) ≤ max n 0 ∧ Below w.heap.size w wr ∧ ((l.take k).all fun s => inT s.1 s.2 stale now) = true ∧ i = .int .i64 k) (fun i _ => l.length - (intOf i).toNat)
    case atStart => exact ⟨0, by omega, Below.refl _ _, by simp, rfl⟩
    case round =>
      obtain ⟨k, hk, hbel, hall, rfl⟩ := hrel
      by_cases hlt : (k : Int) < n
      · have hkl : k < l.length := by omega
        have hlen := stampCells_length l
        obtain ⟨hv0, hv1⟩ := stampCells_at l k hkl
        have hrw := hr.below hbel (fun _ h _ => h)
        rcases hrw with hnil | ⟨b, off, rfl, _, _, hc⟩
        · exfalso; rw [hnil] at hlen; simp at hlen; omega
        · have hc0 : wr.cell? ⟨b, off + k * 2, none⟩ = some (.int .i64 l[k].1) := by rw [Nat.mul_comm]; exact hc _ _ hv0
          have hc1 : wr.cell? ⟨b, off + k * 2 + 1, none⟩ = some (.bool l[k].2) := by rw [Nat.mul_comm, Nat.add_assoc]; exact hc _ _ hv1
          clear hc hv0 hv1 hr
          cases hb : inT l[k].1 l[k].2 stale now
          · have H := Lib.hid (heard_false hkl hlt hb)
            have HB := Lib.hid hb
            clear hb hall
            go_wp2_with fail
            refine (in_time _ _ _ _ _ hnow).mono ?_
            rintro e w' ⟨rfl, rfl⟩
            rw [HB.out]
            go_wp2_with fail
            go_ret
            exact ⟨by rw [H.out]; rfl, hbel.alloc hbel.size _⟩
          · have H := Lib.hid (heard_succ hkl hall hb)
            have HB := Lib.hid hb
            clear hb hall
            go_wp2_with fail
            refine (in_time _ _ _ _ _ hnow).mono ?_
            rintro e w' ⟨rfl, rfl⟩
            rw [HB.out]
            go_wp2_with fail
            go_roundw
            case rel => exact ⟨k + 1, by omega, hbel.alloc hbel.size _, H.out, by go_num⟩
            case measure => simp [intOf]; omega
      · have hres : heardL l n stale now = true := by
          have e : n.toNat = k := by omega
          rw [heardL, e, hall]
          simp; omega
        have H := Lib.hid hres
        clear hres hr hall
        go_wp2
        go_ret
        exact ⟨by rw [H.out]; rfl, hbel⟩

def freshL (routers counts carries stale : Int) (up : List Bool) (cs ks : List (Int × Bool)) (refused now : Int) : Bool :=
  (refused == 0) && upL up routers && heardL cs counts stale now && heardL ks carries stale now

set_option maxHeartbeats 800000 in
theorem fresh_any (c0 c1 c2 c3 c7 c8 c9 c10 c11 c13 c14 c15 c16 c17 c18 c19 : Value) (routers counts carries stale refused now : Int) (A0 A1 A2 : Option Addr) (k0 k1 k2 : Nat)
    (up : List Bool) (cs ks : List (Int × Bool)) (F : Nat → Prop) (w : World) (hnow : now ≤ 9223372036854775807) (hl0 : up.length ≤ 9223372036854775807) (hl1 : cs.length ≤ 9223372036854775807) (hl2 : ks.length ≤ 9223372036854775807)
    (hr0 : Reads w F A0 (up.map Value.bool)) (hr1 : Reads w F A1 (stampCells cs)) (hr2 : Reads w F A2 (stampCells ks)) :
    Calls Try.prog 18 #[.agg #[c0, c1, c2, c3, .int .i64 routers, .int .i64 counts, .int .i64 carries, c7, c8, c9, c10, c11, .int .i64 stale, c13, c14, c15, c16, c17, c18, c19],
        .agg #[.slice A0 up.length k0, .slice A1 cs.length k1, .slice A2 ks.length k2, .int .i64 refused], .int .i64 now] w
      fun e w' => e = .returned (.bool (freshL routers counts carries stale up cs ks refused now)) ∧ Below w.heap.size w w' := by
  have hres : freshL routers counts carries stale up cs ks refused now = ((refused == 0) && upL up routers && heardL cs counts stale now && heardL ks carries stale now) := rfl
  have H := Lib.hid hres
  clear hres
  by_cases h0 : refused = 0
  · subst h0
    cases hu : upL up routers
    · have HU := Lib.hid hu
      clear hu
      go_enter Try.func18, Try.ntmps18
      go_wp2_with fail
      refine (up_any _ _ _ _ F _ hl0 (by exact (hr0.alloc _).alloc _)).mono ?_
      rintro e w' ⟨rfl, rfl⟩
      rw [HU.out]
      go_wp2_with fail
      go_ret
      exact ⟨by rw [H.out, HU.out]; rfl, ((Below.refl _ _).alloc (Nat.le_refl _) _).alloc (by simp) _⟩
    · cases h1 : heardL cs counts stale now
      · have HU := Lib.hid hu
        have H1 := Lib.hid h1
        clear hu h1
        go_enter Try.func18, Try.ntmps18
        go_wp2_with fail
        refine (up_any _ _ _ _ F _ hl0 (by exact (hr0.alloc _).alloc _)).mono ?_
        rintro e w' ⟨rfl, rfl⟩
        rw [HU.out]
        go_wp2_with fail
        refine (heard_any _ _ _ _ _ _ F _ hnow hl1 (by exact (hr1.alloc _).alloc _)).mono ?_
        rintro e w' ⟨rfl, hb⟩
        rw [H1.out]
        go_wp2_with fail
        go_ret
        exact ⟨by rw [H.out, HU.out, H1.out]; rfl, (((Below.refl _ _).alloc (Nat.le_refl _) _).alloc (by simp) _).trans (hb.mono (by simp; omega))⟩
      · cases h2 : heardL ks carries stale now
        all_goals
          have HU := Lib.hid hu
          have H1 := Lib.hid h1
          have H2 := Lib.hid h2
          clear hu h1 h2
          go_enter Try.func18, Try.ntmps18
          go_wp2_with fail
          refine (up_any _ _ _ _ F _ hl0 (by exact (hr0.alloc _).alloc _)).mono ?_
          rintro e w' ⟨rfl, rfl⟩
          rw [HU.out]
          go_wp2_with fail
          refine (heard_any _ _ _ _ _ _ F _ hnow hl1 (by exact (hr1.alloc _).alloc _)).mono ?_
          rintro e w1 ⟨rfl, hb⟩
          rw [H1.out]
          have hr2' := ((hr2.alloc (.cells #[c0, c1, c2, c3, .int .i64 routers, .int .i64 counts, .int .i64 carries, c7, c8, c9, c10, c11, .int .i64 stale, c13, c14, c15, c16, c17, c18, c19] 38)).alloc
            (.cells #[.slice A0 up.length k0, .slice A1 cs.length k1, .slice A2 ks.length k2, .int .i64 0] 41)).below hb (fun _ h _ => h)
          have e0 : w1.cell? ⟨w.heap.size, 6, none⟩ = some (.int .i64 carries) := (hb.cell (p := ⟨w.heap.size, 6, none⟩) (by simp; omega)).trans (by go_simp)
          have e1 : w1.cell? ⟨w.heap.size, 12, none⟩ = some (.int .i64 stale) := (hb.cell (p := ⟨w.heap.size, 12, none⟩) (by simp; omega)).trans (by go_simp)
          have e2 : w1.cell? ⟨w.heap.size + 1, 2, none⟩ = some (.slice A2 ks.length k2) := (hb.cell (p := ⟨w.heap.size + 1, 2, none⟩) (by simp)).trans (by go_simp)
          have hb' : Below w.heap.size w w1 := (((Below.refl _ _).alloc (Nat.le_refl _) _).alloc (by simp) _).trans (hb.mono (by simp; omega))
          clear hb
          go_wp2_with fail
          refine (heard_any _ _ _ _ _ _ F _ hnow hl2 hr2').mono ?_
          rintro e w2 ⟨rfl, hb2⟩
          rw [H2.out]
          go_wp2_with fail
          go_ret
          exact ⟨by rw [H.out, HU.out, H1.out, H2.out]; rfl, hb'.trans (hb2.mono hb'.size)⟩
  · have hd : (refused == 0) = false := by simpa using h0
    go_enter Try.func18, Try.ntmps18
    go_wp2
    go_ret
    exact ⟨by rw [H.out, hd]; rfl, ((Below.refl _ _).alloc (Nat.le_refl _) _).alloc (by simp) _⟩
end Go.Proofs.Ytifiabhoeagblaa
