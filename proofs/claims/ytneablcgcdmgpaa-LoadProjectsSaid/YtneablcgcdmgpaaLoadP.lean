/-
  Loads as plain numbers: a rising row of interfaces, each with what goes out by it; what adding and taking away do. No program in sight. No condition.
-/
import Derived.Test.YtneablcgcdmgpaaNumSums
namespace Go.Proofs.Ytneablcgcdmgpaa

abbrev LS := List (Int × Int)
def capN : Int := 9007199254740991
def keysL (s : LS) : List Int := s.map (·.1)
def getZ : LS → Int → Int
  | [], _ => 0
  | (a, n) :: s, x => if a = x then n else getZ s x
def setZ : LS → Int → Int → LS
  | [], x, n => if 0 < n then [(x, n)] else []
  | (a, m) :: s, x, n => if a < x then (a, m) :: setZ s x n else if a = x then (if 0 < n then (x, n) :: s else s) else (if 0 < n then (x, n) :: (a, m) :: s else (a, m) :: s)
/-- rising, each above 0 and at most the cap -/
def Ris (s : LS) : Prop := s.Pairwise (fun p q => p.1 < q.1)
def Pos (s : LS) : Prop := ∀ p ∈ s, 0 < p.2 ∧ p.2 ≤ capN
theorem getZ_not {s : LS} {x : Int} (h : x ∉ keysL s) : getZ s x = 0 := by
  induction s with
  | nil => rfl
  | cons p s ih =>
    obtain ⟨a, n⟩ := p
    simp only [keysL, List.map_cons, List.mem_cons, not_or] at h
    rw [getZ, if_neg (fun e => h.1 e.symm), ih h.2]
theorem getZ_at {s : LS} (h : Ris s) {k : Nat} (hk : k < s.length) : getZ s s[k].1 = s[k].2 := by
  induction s generalizing k with
  | nil => simp at hk
  | cons p s ih =>
    obtain ⟨a, n⟩ := p
    have h' := List.pairwise_cons.1 h
    match k with
    | 0 => simp [getZ]
    | k + 1 =>
      have hk' : k < s.length := by simpa using hk
      have := h'.1 _ (List.getElem_mem hk')
      simp only [List.getElem_cons_succ, getZ]
      simp only at this
      rw [if_neg (by omega)]
      exact ih h'.2 hk'
theorem getZ_mem {s : LS} {x : Int} (h : x ∈ keysL s) : ∃ p ∈ s, p.1 = x ∧ getZ s x = p.2 := by
  induction s with
  | nil => simp [keysL] at h
  | cons p s ih =>
    obtain ⟨a, n⟩ := p
    by_cases e : a = x
    · exact ⟨(a, n), by simp, e, by simp [getZ, e]⟩
    · have h2 : x ∈ keysL s := by
        simp only [keysL, List.map_cons, List.mem_cons] at h
        rcases h with h | h
        · exact absurd h.symm e
        · exact h
      obtain ⟨q, hq, e1, e2⟩ := ih h2
      exact ⟨q, by simp [hq], e1, by rw [getZ, if_neg e, e2]⟩
theorem getZ_bd {s : LS} (h : Pos s) (x : Int) : 0 ≤ getZ s x ∧ getZ s x ≤ capN := by
  by_cases hx : x ∈ keysL s
  · obtain ⟨p, hp, _, e⟩ := getZ_mem hx
    have := h p hp
    rw [e]
    omega
  · rw [getZ_not hx]
    simp [capN]
theorem mem_setZ {s : LS} {x n : Int} {p : Int × Int} (h : p ∈ setZ s x n) : p ∈ s ∨ (p = (x, n) ∧ 0 < n) := by
  induction s with
  | nil =>
    unfold setZ at h
    split at h
    · simp at h; exact .inr ⟨h, by assumption⟩
    · simp at h
  | cons q s ih =>
    obtain ⟨a, m⟩ := q
    unfold setZ at h
    split at h
    · rcases List.mem_cons.1 h with h | h
      · exact .inl (by simp [h])
      · rcases ih h with h | h
        · exact .inl (by simp [h])
        · exact .inr h
    · split at h
      · split at h
        · rcases List.mem_cons.1 h with h | h
          · exact .inr ⟨h, by assumption⟩
          · exact .inl (by simp [h])
        · exact .inl (by simp [h])
      · split at h
        · rcases List.mem_cons.1 h with h | h
          · exact .inr ⟨h, by assumption⟩
          · exact .inl h
        · exact .inl h
theorem ris_setZ {s : LS} (h : Ris s) (x n : Int) : Ris (setZ s x n) := by
  induction s with
  | nil =>
    unfold setZ
    split <;> simp [Ris]
  | cons q s ih =>
    obtain ⟨a, m⟩ := q
    have h' := List.pairwise_cons.1 h
    unfold setZ
    split
    · refine List.pairwise_cons.2 ⟨fun p hp => ?_, ih h'.2⟩
      rcases mem_setZ hp with hp | ⟨rfl, _⟩
      · exact h'.1 p hp
      · assumption
    · split
      · subst_vars
        split
        · exact List.pairwise_cons.2 ⟨fun p hp => h'.1 p hp, h'.2⟩
        · exact h'.2
      · split
        · refine List.pairwise_cons.2 ⟨fun p hp => ?_, h⟩
          rcases List.mem_cons.1 hp with rfl | hp
          · show x < a
            omega
          · have := h'.1 p hp
            simp only at this
            show x < p.1
            omega
        · exact h
theorem pos_setZ {s : LS} (h : Pos s) {x n : Int} (hn : n ≤ capN) : Pos (setZ s x n) := by
  intro p hp
  rcases mem_setZ hp with hp | ⟨rfl, h0⟩
  · exact h p hp
  · exact ⟨h0, hn⟩
theorem getZ_set {s : LS} (h : Ris s) {x n : Int} (hn : 0 ≤ n) (y : Int) : getZ (setZ s x n) y = if y = x then n else getZ s y := by
  induction s with
  | nil =>
    unfold setZ
    by_cases hp : 0 < n
    · rw [if_pos hp]
      simp only [getZ]
      by_cases e : y = x
      · rw [if_pos e, if_pos e.symm]
      · rw [if_neg e, if_neg (fun h => e h.symm)]
    · rw [if_neg hp]
      simp only [getZ]
      split <;> omega
  | cons q s ih =>
    obtain ⟨a, m⟩ := q
    have h' := List.pairwise_cons.1 h
    have hno : ∀ z, z ≤ a → getZ s z = 0 := fun z hz => getZ_not (by
      intro hm
      obtain ⟨p, hp, e⟩ := List.mem_map.1 hm
      have := h'.1 p hp
      simp only at this
      omega)
    unfold setZ
    by_cases h1 : a < x
    · rw [if_pos h1, getZ, ih h'.2, getZ]
      by_cases e : a = y
      · rw [if_pos e, if_pos e, if_neg (by omega)]
      · rw [if_neg e, if_neg e]
    · rw [if_neg h1]
      by_cases h2 : a = x
      · subst h2
        rw [if_pos rfl]
        by_cases hp : 0 < n
        · rw [if_pos hp, getZ, getZ]
          by_cases e : y = a
          · rw [if_pos e.symm, if_pos e]
          · rw [if_neg (fun h => e h.symm), if_neg e, if_neg (fun h => e h.symm)]
        · rw [if_neg hp, getZ]
          by_cases e : y = a
          · subst e
            rw [if_pos rfl, hno y (Int.le_refl _)]
            omega
          · rw [if_neg e, if_neg (fun h => e h.symm)]
      · rw [if_neg h2]
        by_cases hp : 0 < n
        · rw [if_pos hp, getZ]
          by_cases e : y = x
          · rw [if_pos e.symm, if_pos e]
          · rw [if_neg (fun h => e h.symm), if_neg e]
        · rw [if_neg hp]
          by_cases e : y = x
          · subst e
            rw [if_pos rfl, getZ, if_neg h2, hno y (by omega)]
            omega
          · rw [if_neg e]
theorem getZ_pos {s : LS} (hp : Pos s) {x : Int} : x ∈ keysL s ↔ getZ s x ≠ 0 := by
  constructor
  · intro h
    obtain ⟨p, hm, _, e⟩ := getZ_mem h
    have := hp p hm
    omega
  · intro h
    by_cases hx : x ∈ keysL s
    · exact hx
    · exact absurd (getZ_not hx) h
theorem mem_set {s : LS} (h : Ris s) (hp : Pos s) {x n : Int} (h0 : 0 ≤ n) (hn : n ≤ capN) (y : Int) : y ∈ keysL (setZ s x n) ↔ (if y = x then n ≠ 0 else y ∈ keysL s) := by
  rw [getZ_pos (pos_setZ hp hn), getZ_set h h0]
  split
  · rfl
  · exact (getZ_pos hp).symm
theorem nodup_keys {s : LS} (h : Ris s) : (keysL s).Nodup := by
  unfold keysL
  rw [List.nodup_iff_pairwise_ne, List.pairwise_map]
  exact h.imp fun h e => by omega
theorem rising_keys {s : LS} (h : Ris s) : (keysL s).Pairwise (fun a b => a ≤ b) := by
  unfold keysL
  rw [List.pairwise_map]
  exact h.imp fun h => Int.le_of_lt h
theorem len_setZ {s : LS} (h : Ris s) (x n : Int) : (setZ s x n).length + (if x ∈ keysL s then 1 else 0) = s.length + (if 0 < n then 1 else 0) := by
  induction s with
  | nil =>
    unfold setZ
    split <;> simp [keysL]
  | cons q s ih =>
    obtain ⟨a, m⟩ := q
    have h' := List.pairwise_cons.1 h
    have hno : ∀ z, z ≤ a → z ∉ keysL s := fun z hz hm => by
      obtain ⟨p, hp, e⟩ := List.mem_map.1 hm
      have := h'.1 p hp
      simp only at this
      omega
    have hk : keysL ((a, m) :: s) = a :: keysL s := rfl
    rw [hk]
    unfold setZ
    by_cases h1 : a < x
    · rw [if_pos h1]
      have := ih h'.2
      have e : (x ∈ a :: keysL s) = (x ∈ keysL s) := by
        simp only [List.mem_cons, eq_iff_iff]
        constructor
        · rintro (h | h)
          · omega
          · exact h
        · exact Or.inr
      simp only [e, List.length_cons]
      omega
    · rw [if_neg h1]
      by_cases h2 : a = x
      · subst h2
        rw [if_pos rfl]
        simp only [List.mem_cons, true_or, if_true]
        split <;> simp
      · rw [if_neg h2]
        have : x ∉ a :: keysL s := by
          simp only [List.mem_cons, not_or]
          exact ⟨fun e => h2 e.symm, hno x (by omega)⟩
        rw [if_neg this]
        split <;> simp

/-! ### the document's way to set -/
def stepS (x n : Int) (t : LS × Bool) (p : Int × Int) : LS × Bool :=
  let t1 := if x ≤ p.1 ∧ t.2 = false then ((if 0 < n then t.1 ++ [(x, n)] else t.1), true) else t
  if p.1 = x then t1 else (t1.1 ++ [p], t1.2)
def finS (x n : Int) (t : LS × Bool) : LS := if t.2 = false ∧ 0 < n then t.1 ++ [(x, n)] else t.1
theorem fold_true (x n : Int) : ∀ (l : LS) (out : LS), (∀ p ∈ l, x < p.1) → l.foldl (stepS x n) (out, true) = (out ++ l, true)
  | [], out, _ => by simp
  | p :: l, out, h => by
    have := h p (by simp)
    rw [List.foldl_cons, show stepS x n (out, true) p = (out ++ [p], true) by simp [stepS]; omega, fold_true x n l _ (fun q hq => h q (by simp [hq]))]
    simp
theorem fold_set (x n : Int) : ∀ (l : LS) (out : LS), Ris l → finS x n (l.foldl (stepS x n) (out, false)) = out ++ setZ l x n
  | [], out, _ => by
    unfold setZ finS
    by_cases h : 0 < n <;> simp [h]
  | (a, m) :: l, out, h => by
    have h' := List.pairwise_cons.1 h
    rw [List.foldl_cons]
    unfold setZ
    by_cases h1 : a < x
    · rw [if_pos h1, show stepS x n (out, false) (a, m) = (out ++ [(a, m)], false) by
        unfold stepS
        simp only
        rw [if_neg (by omega), if_neg (by omega)], fold_set x n l _ h'.2]
      simp
    · rw [if_neg h1]
      by_cases h2 : a = x
      · subst h2
        have e : stepS a n (out, false) (a, m) = ((if 0 < n then out ++ [(a, n)] else out), true) := by
          unfold stepS
          simp
        rw [e, fold_true a n l _ (fun p hp => h'.1 p hp), if_pos rfl]
        unfold finS
        by_cases hn : 0 < n <;> simp [hn]
      · rw [if_neg h2]
        have e : stepS x n (out, false) (a, m) = ((if 0 < n then out ++ [(x, n)] else out) ++ [(a, m)], true) := by
          have h3 : x ≤ a := by omega
          simp [stepS, h2, h3]
        rw [e, fold_true x n l _ (fun p hp => by have := h'.1 p hp; simp only at this; omega)]
        unfold finS
        by_cases hn : 0 < n <;> simp [hn]

/-! ### what one call does -/
/-- loads, and whether one was at the cap -/
structure LD where
  s : LS
  o : Bool
def isCap (n : Int) : Bool := decide (n = capN)
def LD.add (x : LD) (i n : Int) : LD := ⟨if 0 ≤ i then setZ x.s i (addZ (getZ x.s i) n) else x.s, x.o || isCap (nearZ n) || (decide (0 ≤ i) && isCap (addZ (getZ x.s i) n))⟩
def LD.sub (x : LD) (i n : Int) : LD := ⟨if 0 ≤ i then setZ x.s i (subZ (getZ x.s i) n) else x.s, x.o || isCap (nearZ n)⟩
structure LD.ok (x : LD) : Prop where
  ris : Ris x.s
  pos : Pos x.s
  key : ∀ p ∈ x.s, 0 ≤ p.1
  cap : ∀ p ∈ x.s, p.2 = capN → x.o = true
theorem addZ_b (a b : Int) : 0 ≤ addZ a b ∧ addZ a b ≤ capN := by
  have := nearZ_bd a
  have := nearZ_bd b
  unfold addZ capN
  unfold nearZ
  omega
theorem subZ_b (a b : Int) : 0 ≤ subZ a b ∧ subZ a b ≤ capN := by
  have := nearZ_bd a
  have := nearZ_bd b
  unfold subZ capN
  unfold nearZ
  omega
theorem LD.ok_nil : (LD.mk [] false).ok := ⟨List.Pairwise.nil, fun _ h => (by cases h), fun _ h => (by cases h), fun _ h => (by cases h)⟩
theorem LD.ok_add {x : LD} (h : x.ok) (i n : Int) : (x.add i n).ok := by
  unfold LD.add
  by_cases hi : 0 ≤ i
  · simp only [hi, if_true, decide_true, Bool.true_and]
    refine ⟨ris_setZ h.ris _ _, pos_setZ h.pos (addZ_b _ _).2, fun p hp => ?_, fun p hp e => ?_⟩
    · rcases mem_setZ hp with hp | ⟨rfl, _⟩
      · exact h.key p hp
      · exact hi
    · rcases mem_setZ hp with hp | ⟨rfl, _⟩
      · simp [h.cap p hp e]
      · simp [isCap, show addZ (getZ x.s i) n = capN from e]
  · simp only [hi, if_false]
    exact ⟨h.ris, h.pos, h.key, fun p hp e => by simp [h.cap p hp e]⟩
theorem LD.ok_sub {x : LD} (h : x.ok) (i n : Int) : (x.sub i n).ok := by
  unfold LD.sub
  by_cases hi : 0 ≤ i
  · simp only [hi, if_true]
    refine ⟨ris_setZ h.ris _ _, pos_setZ h.pos (subZ_b _ _).2, fun p hp => ?_, fun p hp e => ?_⟩
    · rcases mem_setZ hp with hp | ⟨rfl, _⟩
      · exact h.key p hp
      · exact hi
    · rcases mem_setZ hp with hp | ⟨rfl, _⟩
      · simp [h.cap p hp e]
      · have e : subZ (getZ x.s i) n = capN := e
        have hb := getZ_bd h.pos i
        have h1 : getZ x.s i = capN := by
          have hn := nearZ_bd n
          unfold subZ capN at *
          unfold nearZ at *
          omega
        have hm : i ∈ keysL x.s := (getZ_pos h.pos).2 (by rw [h1]; simp [capN])
        obtain ⟨p, hp, _, e2⟩ := getZ_mem hm
        simp [h.cap p hp (by rw [← e2, h1])]
  · simp only [hi, if_false]
    exact ⟨h.ris, h.pos, h.key, fun p hp e => by simp [h.cap p hp e]⟩
/-- taking away reaches the cap only where one was there -/
theorem LD.sub_cap {x : LD} (h : x.ok) (i n : Int) : (x.o || isCap (subZ (getZ x.s i) n)) = x.o := by
  cases hc : isCap (subZ (getZ x.s i) n) with
  | false => simp
  | true =>
    have e : subZ (getZ x.s i) n = capN := by simpa [isCap] using hc
    have hb := getZ_bd h.pos i
    have h1 : getZ x.s i = capN := by
      have hn := nearZ_bd n
      unfold subZ capN at *
      unfold nearZ at *
      omega
    have hm : i ∈ keysL x.s := (getZ_pos h.pos).2 (by rw [h1]; simp [capN])
    obtain ⟨p, hp, _, e2⟩ := getZ_mem hm
    simp [h.cap p hp (by rw [← e2, h1])]
theorem LD.len_add (x : LD) (h : x.ok) (i n : Int) : (x.add i n).s.length ≤ x.s.length + 1 := by
  unfold LD.add
  by_cases hi : 0 ≤ i
  · simp only [hi, if_true]
    have := len_setZ h.ris i (addZ (getZ x.s i) n) 
    split at this <;> split at this <;> omega
  · simp [hi]
theorem LD.len_sub (x : LD) (h : x.ok) (i n : Int) : (x.sub i n).s.length ≤ x.s.length + 1 := by
  unfold LD.sub
  by_cases hi : 0 ≤ i
  · simp only [hi, if_true]
    have := len_setZ h.ris i (subZ (getZ x.s i) n) 
    split at this <;> split at this <;> omega
  · simp [hi]
end Go.Proofs.Ytneablcgcdmgpaa
