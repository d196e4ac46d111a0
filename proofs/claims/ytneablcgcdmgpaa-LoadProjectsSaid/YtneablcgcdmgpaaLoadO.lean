/-
  Loads added in whatever order are the same; a row turned round. No program in sight. No condition.
-/
import Derived.Test.YtneablcgcdmgpaaLoadP
namespace Go.Proofs.Ytneablcgcdmgpaa

theorem getZ_low {s : LS} {a : Int} (h : ∀ p ∈ s, a < p.1) : getZ s a = 0 := getZ_not (by
  intro hm
  obtain ⟨p, hp, e⟩ := List.mem_map.1 hm
  have := h p hp
  omega)
theorem ls_ext : ∀ {s t : LS}, Ris s → Pos s → Ris t → Pos t → (∀ x, getZ s x = getZ t x) → s = t
  | [], [], _, _, _, _, _ => rfl
  | [], (b, m) :: t, _, _, _, hp, h => by
    have h1 := h b
    have h2 := hp (b, m) (by simp)
    simp [getZ] at h1
    simp only at h2
    omega
  | (a, n) :: s, [], _, hp, _, _, h => by
    have h1 := h a
    have h2 := hp (a, n) (by simp)
    simp [getZ] at h1
    simp only at h2
    omega
  | (a, n) :: s, (b, m) :: t, hr, hp, hr2, hp2, h => by
    have r1 := List.pairwise_cons.1 hr
    have r2 := List.pairwise_cons.1 hr2
    have q1 := hp (a, n) (by simp)
    have q2 := hp2 (b, m) (by simp)
    have ha := h a
    have hb := h b
    simp only [getZ, if_true] at ha hb
    simp only at q1 q2
    have e : a = b := by
      rcases Int.lt_trichotomy a b with hl | e | hl
      · rw [if_neg (by omega), getZ_low (fun p hp => by have := r2.1 p hp; simp only at this; omega)] at ha
        omega
      · exact e
      · rw [if_neg (by omega), getZ_low (fun p hp => by have := r1.1 p hp; simp only at this; omega)] at hb
        omega
    subst e
    simp only [if_true] at ha
    subst ha
    have e : s = t := ls_ext r1.2 (fun p h => hp p (by simp [h])) r2.2 (fun p h => hp2 p (by simp [h])) (fun x => by
      have hx := h x
      simp only [getZ] at hx
      by_cases e : a = x
      · subst e
        rw [getZ_low (fun p hp => r1.1 p hp), getZ_low (fun p hp => r2.1 p hp)]
      · rwa [if_neg e, if_neg e] at hx)
    rw [e]
theorem LD.ext_get {x y : LD} (hx : x.ok) (hy : y.ok) (h : ∀ i, getZ x.s i = getZ y.s i) (ho : x.o = y.o) : x = y := by
  obtain ⟨s, o⟩ := x
  obtain ⟨t, p⟩ := y
  simp only at h ho
  have e : s = t := ls_ext hx.ris hx.pos hy.ris hy.pos h
  rw [e, ho]
theorem LD.add_get {x : LD} (h : x.ok) (i n j : Int) : getZ (x.add i n).s j = if 0 ≤ i ∧ j = i then addZ (getZ x.s i) n else getZ x.s j := by
  unfold LD.add
  by_cases hi : 0 ≤ i
  · simp only [hi, if_true, true_and]
    exact getZ_set h.ris (addZ_b _ _).1 j
  · simp [hi]
theorem addZ_swap (g n m : Int) : addZ (addZ g n) m = addZ (addZ g m) n := by
  have h1 := nearZ_bd g
  have h2 := nearZ_bd n
  have h3 := nearZ_bd m
  unfold addZ
  generalize nearZ g = a at *
  generalize nearZ n = b at *
  generalize nearZ m = c at *
  unfold nearZ
  omega
theorem addZ_cap (g n m : Int) (h : addZ g n = capN) : addZ (addZ g n) m = capN := by
  have h3 := nearZ_bd m
  rw [h]
  unfold addZ capN
  generalize nearZ m = c at *
  unfold nearZ
  omega
theorem LD.add_swap {x : LD} (h : x.ok) (i n j m : Int) : (x.add i n).add j m = (x.add j m).add i n := by
  have h1 := LD.ok_add h i n
  have h2 := LD.ok_add h j m
  refine LD.ext_get (LD.ok_add h1 j m) (LD.ok_add h2 i n) (fun k => ?_) ?_
  · rw [LD.add_get h1, LD.add_get h2, LD.add_get h, LD.add_get h, LD.add_get h, LD.add_get h]
    by_cases hij : i = j
    · subst hij
      by_cases hi : 0 ≤ i
      · simp only [hi, true_and, if_true]
        rw [addZ_swap]
        split <;> rfl
      · simp [hi]
    · by_cases h3 : 0 ≤ j ∧ k = j
      · rw [if_pos h3, if_neg (by omega), if_neg (by omega), if_pos h3]
      · rw [if_neg h3, if_neg h3]
        by_cases h4 : 0 ≤ i ∧ k = i
        · rw [if_pos h4, if_pos h4, if_neg (by omega)]
        · rw [if_neg h4, if_neg h4]
  · have e : ∀ (a b c d e f : Bool), (c = true → d = true) → (e = true → f = true) → d = f → ((a || b || c) || d) = (a || b || f) := by decide
    show (x.o || isCap (nearZ n) || (decide (0 ≤ i) && isCap (addZ (getZ x.s i) n)) || isCap (nearZ m) || (decide (0 ≤ j) && isCap (addZ (getZ (x.add i n).s j) m))) = (x.o || isCap (nearZ m) || (decide (0 ≤ j) && isCap (addZ (getZ x.s j) m)) || isCap (nearZ n) || (decide (0 ≤ i) && isCap (addZ (getZ (x.add j m).s i) n)))
    rw [LD.add_get h, LD.add_get h]
    by_cases hij : i = j
    · subst hij
      by_cases hi : 0 ≤ i
      · simp only [hi, and_self, if_true, decide_true, Bool.true_and]
        rw [addZ_swap]
        have c1 : isCap (addZ (getZ x.s i) n) = true → isCap (addZ (addZ (getZ x.s i) m) n) = true := fun h => by
          rw [addZ_swap]
          exact decide_eq_true (addZ_cap _ _ _ (of_decide_eq_true h))
        have c2 : isCap (addZ (getZ x.s i) m) = true → isCap (addZ (addZ (getZ x.s i) m) n) = true := fun h => decide_eq_true (addZ_cap _ _ _ (of_decide_eq_true h))
        revert c1 c2
        generalize isCap (addZ (getZ x.s i) n) = b1
        generalize isCap (addZ (getZ x.s i) m) = b2
        generalize isCap (addZ (addZ (getZ x.s i) m) n) = b3
        generalize x.o = b4
        generalize isCap (nearZ n) = b5
        generalize isCap (nearZ m) = b6
        revert b1 b2 b3 b4 b5 b6
        decide
      · simp only [hi, decide_false, Bool.false_and, Bool.or_false]
        rw [Bool.or_assoc, Bool.or_assoc, Bool.or_comm (isCap (nearZ n))]
    · rw [if_neg (by omega), if_neg (by omega)]
      generalize (decide (0 ≤ i) && isCap (addZ (getZ x.s i) n)) = b1
      generalize (decide (0 ≤ j) && isCap (addZ (getZ x.s j) m)) = b2
      generalize x.o = b4
      generalize isCap (nearZ n) = b5
      generalize isCap (nearZ m) = b6
      revert b1 b2 b4 b5 b6
      decide
/-- the loads of a row of them -/
def addsL (l : LS) : LD := l.foldl (fun x p => x.add p.1 p.2) ⟨[], false⟩
theorem adds_from : ∀ (l : LS) (x : LD), x.ok → (l.foldl (fun x p => x.add p.1 p.2) x).ok
  | [], _, h => h
  | p :: l, _, h => adds_from l _ (LD.ok_add h p.1 p.2)
theorem addsL_ok (l : LS) : (addsL l).ok := adds_from l _ LD.ok_nil
theorem addsL_take {l : LS} {k : Nat} (hk : k < l.length) : addsL (l.take (k + 1)) = (addsL (l.take k)).add l[k].1 l[k].2 := by
  unfold addsL
  rw [List.take_succ_eq_append_getElem hk, List.foldl_append]
  rfl
theorem adds_past : ∀ (l : LS) (p : Int × Int) (x : LD), x.ok → l.foldl (fun x p => x.add p.1 p.2) (x.add p.1 p.2) = (l.foldl (fun x p => x.add p.1 p.2) x).add p.1 p.2
  | [], _, _, _ => rfl
  | q :: l, p, x, h => by
    rw [List.foldl_cons, LD.add_swap h, adds_past l p _ (LD.ok_add h _ _)]
    rfl
theorem adds_turn : ∀ (m l : LS) (x : LD), x.ok → (m ++ l).foldl (fun x p => x.add p.1 p.2) x = (l ++ m).foldl (fun x p => x.add p.1 p.2) x
  | [], l, x, _ => by simp
  | p :: m, l, x, h => by
    rw [List.cons_append, List.foldl_cons, adds_turn m l _ (LD.ok_add h _ _), List.foldl_append, adds_past l p x h, List.foldl_append, List.foldl_cons]
/-- turned round by n -/
def turned (l : LS) (n : Nat) : LS := l.drop n ++ l.take n
theorem turned_len {l : LS} {n : Nat} (h : n < l.length) : (turned l n).length = l.length := by
  unfold turned
  rw [List.length_append, List.length_drop, List.length_take]
  omega
theorem turned_at {l : LS} {n k : Nat} (hn : n < l.length) (hk : k < l.length) : (turned l n)[k]'(by rw [turned_len hn]; exact hk) = l[(k + n) % l.length]'(Nat.mod_lt _ (by omega)) := by
  unfold turned
  by_cases h : k < l.length - n
  · rw [List.getElem_append_left (by rw [List.length_drop]; exact h), List.getElem_drop]
    congr 1
    rw [Nat.mod_eq_of_lt (by omega), Nat.add_comm]
  · rw [List.getElem_append_right (by rw [List.length_drop]; omega), List.getElem_take]
    congr 1
    rw [List.length_drop, Nat.mod_eq_sub_mod (by omega), Nat.mod_eq_of_lt (by omega)]
    omega
theorem addsL_turned (l : LS) (n : Nat) : addsL (turned l n) = addsL l := by
  unfold addsL turned
  rw [adds_turn _ _ _ LD.ok_nil, List.take_append_drop]
end Go.Proofs.Ytneablcgcdmgpaa
