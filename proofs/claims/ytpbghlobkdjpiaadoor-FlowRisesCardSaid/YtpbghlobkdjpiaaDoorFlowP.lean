/-
  How much could go out at most, as plain numbers: cuts, the least cut, two ways to reckon them; more room, a want more. No program in sight. No condition.
-/
import Derived.Test.YtpbghlobkdjpiaaDoorNumSums
import Derived.Lib.TrailingZeros
namespace Go.Proofs.YtpbghlobkdjpiaaDoor

section
variable {α : Type}
/-- the sum of what counts, each from 0 to the cap -/
def sumIf (p : α → Bool) (f : α → Int) : List α → Int
  | [] => 0
  | x :: l => (if p x then nearZ (f x) else 0) + sumIf p f l
theorem sumIf_nonneg (p : α → Bool) (f : α → Int) : ∀ l : List α, 0 ≤ sumIf p f l
  | [] => Int.le_refl _
  | x :: l => by
    have := sumIf_nonneg p f l
    have := (nearZ_bd (f x)).1
    unfold sumIf
    split <;> omega
theorem sumIf_append (p : α → Bool) (f : α → Int) : ∀ l m : List α, sumIf p f (l ++ m) = sumIf p f l + sumIf p f m
  | [], m => by simp [sumIf]
  | x :: l, m => by
    rw [List.cons_append, sumIf, sumIf_append p f l m, sumIf]
    omega
theorem sumIf_snoc (p : α → Bool) (f : α → Int) (l : List α) (x : α) : sumIf p f (l ++ [x]) = sumIf p f l + if p x then nearZ (f x) else 0 := by
  rw [sumIf_append]
  simp [sumIf]
theorem sumIf_mono (p : α → Bool) {f g : α → Int} : ∀ l : List α, (∀ x ∈ l, nearZ (f x) ≤ nearZ (g x)) → sumIf p f l ≤ sumIf p g l
  | [], _ => Int.le_refl _
  | x :: l, h => by
    have h1 := sumIf_mono p (f := f) (g := g) l (fun y hy => h y (List.mem_cons_of_mem _ hy))
    have h2 := h x (by simp)
    unfold sumIf
    split <;> omega
theorem sumIf_congr {p q : α → Bool} (f : α → Int) : ∀ l : List α, (∀ x ∈ l, p x = q x) → sumIf p f l = sumIf q f l
  | [], _ => rfl
  | x :: l, h => by
    rw [sumIf, sumIf, sumIf_congr f l (fun y hy => h y (List.mem_cons_of_mem _ hy)), h x (by simp)]
theorem sumIf_none {p : α → Bool} (f : α → Int) : ∀ l : List α, (∀ x ∈ l, p x = false) → sumIf p f l = 0
  | [], _ => rfl
  | x :: l, h => by
    rw [sumIf, sumIf_none f l (fun y hy => h y (List.mem_cons_of_mem _ hy)), h x (by simp)]
    rfl
theorem sumIf_split {p q r : α → Bool} (f : α → Int) : ∀ l : List α, (∀ x ∈ l, r x = (p x || q x)) → (∀ x ∈ l, p x = true → q x = false) → sumIf r f l = sumIf p f l + sumIf q f l
  | [], _, _ => rfl
  | x :: l, h, k => by
    have h1 := h x (by simp)
    have k1 := k x (by simp)
    rw [sumIf, sumIf, sumIf, sumIf_split f l (fun y hy => h y (List.mem_cons_of_mem _ hy)) (fun y hy => k y (List.mem_cons_of_mem _ hy)), h1]
    cases hp : p x with
    | false => cases q x <;> simp <;> omega
    | true => rw [k1 hp]; simp; omega
theorem sumIf_map {β : Type} (g : β → α) (p : α → Bool) (f : α → Int) : ∀ l : List β, sumIf p f (l.map g) = sumIf (fun x => p (g x)) (fun x => f (g x)) l
  | [] => rfl
  | x :: l => by rw [List.map_cons, sumIf, sumIf_map g p f l, sumIf]
end

/-- capped -/
def capZ (n : Int) : Int := min n 9007199254740991
theorem capZ_zero : capZ 0 = 0 := by decide
theorem capZ_bd {n : Int} (h : 0 ≤ n) : 0 ≤ capZ n ∧ capZ n ≤ 9007199254740991 := by unfold capZ; omega
theorem capZ_mono {a b : Int} (h : a ≤ b) : capZ a ≤ capZ b := by unfold capZ; omega
theorem nearZ_cap {n : Int} (h : 0 ≤ n) : nearZ (capZ n) = capZ n := by unfold nearZ capZ; omega
theorem addZ_cap {t : Int} (x : Int) (h : 0 ≤ t) : addZ (capZ t) x = capZ (t + nearZ x) := by
  have := nearZ_bd x
  rw [addZ, nearZ_cap h]
  unfold capZ
  generalize nearZ x = y at *
  unfold nearZ
  omega
theorem addZ_caps {t s : Int} (h : 0 ≤ t) (k : 0 ≤ s) : addZ (capZ t) (capZ s) = capZ (t + s) := by
  rw [addZ_cap _ h, nearZ_cap k]
  unfold capZ
  omega

/-- a want: how much, and the interfaces of its ways -/
structure FW where
  n : Int
  ways : List Int
def FW.via (v : FW) (i : Int) : Bool := v.ways.contains i
def ifAt (rs : List (Int × Int)) (i : Nat) : Int := (rs.getD i (0, 0)).1
def roomAt (rs : List (Int × Int)) (i : Nat) : Int := (rs.getD i (0, 0)).2
/-- has a want a way that the cut leaves? -/
def crossTo (rs : List (Int × Int)) (set : Nat) (v : FW) (k : Nat) : Bool := (List.range k).any fun i => !set.testBit i && v.via (ifAt rs i)
def crossB (rs : List (Int × Int)) (set : Nat) (v : FW) : Bool := crossTo rs set v rs.length
theorem crossTo_succ (rs : List (Int × Int)) (set : Nat) (v : FW) (k : Nat) : crossTo rs set v (k + 1) = (crossTo rs set v k || (!set.testBit k && v.via (ifAt rs k))) := by
  unfold crossTo
  rw [List.range_succ, List.any_append]
  simp
def roomsTo (rs : List (Int × Int)) (set k : Nat) : Int := sumIf (fun i => set.testBit i) (roomAt rs) (List.range k)
theorem roomsTo_succ (rs : List (Int × Int)) (set k : Nat) : roomsTo rs set (k + 1) = roomsTo rs set k + if set.testBit k then nearZ (roomAt rs k) else 0 := by
  unfold roomsTo
  rw [List.range_succ, sumIf_snoc]
theorem roomsTo_nonneg (rs : List (Int × Int)) (set k : Nat) : 0 ≤ roomsTo rs set k := sumIf_nonneg _ _ _
def wantsOf (rs : List (Int × Int)) (set : Nat) (ws : List FW) : Int := sumIf (crossB rs set) FW.n ws
theorem wantsOf_nonneg (rs : List (Int × Int)) (set : Nat) (ws : List FW) : 0 ≤ wantsOf rs set ws := sumIf_nonneg _ _ _
theorem wantsOf_snoc (rs : List (Int × Int)) (set : Nat) (ws : List FW) (v : FW) : wantsOf rs set (ws ++ [v]) = wantsOf rs set ws + if crossB rs set v then nearZ v.n else 0 := sumIf_snoc _ _ _ _
/-- the number of a cut -/
def cutZ (rs : List (Int × Int)) (ws : List FW) (set : Nat) : Int := capZ (roomsTo rs set rs.length + wantsOf rs set ws)
theorem cutZ_bd (rs : List (Int × Int)) (ws : List FW) (set : Nat) : 0 ≤ cutZ rs ws set ∧ cutZ rs ws set ≤ 9007199254740991 :=
  capZ_bd (by have := roomsTo_nonneg rs set rs.length; have := wantsOf_nonneg rs set ws; omega)
def leastTo (rs : List (Int × Int)) (ws : List FW) : Nat → Int
  | 0 => 9007199254740991
  | s + 1 => min (leastTo rs ws s) (cutZ rs ws s)
def leastZ (rs : List (Int × Int)) (ws : List FW) : Int := leastTo rs ws (2 ^ rs.length)
theorem leastTo_bd (rs : List (Int × Int)) (ws : List FW) : ∀ k, 0 ≤ leastTo rs ws k ∧ leastTo rs ws k ≤ 9007199254740991
  | 0 => by unfold leastTo; omega
  | s + 1 => by
    have := leastTo_bd rs ws s
    have := cutZ_bd rs ws s
    unfold leastTo
    omega
theorem leastTo_le (rs : List (Int × Int)) (ws : List FW) {s : Nat} : ∀ k, s < k → leastTo rs ws k ≤ cutZ rs ws s
  | 0, h => by omega
  | k + 1, h => by
    unfold leastTo
    by_cases e : s = k
    · subst e; omega
    · have := leastTo_le rs ws k (s := s) (by omega)
      omega
theorem leastTo_mono {rs rs' : List (Int × Int)} {ws ws' : List FW} (h : ∀ s, cutZ rs ws s ≤ cutZ rs' ws' s) : ∀ k, leastTo rs ws k ≤ leastTo rs' ws' k
  | 0 => Int.le_refl _
  | k + 1 => by
    have := leastTo_mono h k
    have := h k
    unfold leastTo
    omega
theorem leastZ_more (rs : List (Int × Int)) (ws : List FW) (v : FW) : leastZ rs ws ≤ leastZ rs (ws ++ [v]) :=
  leastTo_mono (fun s => by
    unfold cutZ
    rw [wantsOf_snoc]
    have := (nearZ_bd v.n).1
    apply capZ_mono
    split <;> omega) _
theorem leastZ_wide {rs rs' : List (Int × Int)} (ws : List FW) (hl : rs'.length = rs.length) (hi : ∀ i, ifAt rs' i = ifAt rs i) (hn : ∀ i, nearZ (roomAt rs i) ≤ nearZ (roomAt rs' i)) : leastZ rs ws ≤ leastZ rs' ws := by
  unfold leastZ
  rw [hl]
  refine leastTo_mono (fun s => ?_) _
  unfold cutZ
  apply capZ_mono
  rw [hl]
  have h1 : roomsTo rs s rs.length ≤ roomsTo rs' s rs.length := sumIf_mono _ _ (fun x _ => hn x)
  have h2 : wantsOf rs' s ws = wantsOf rs s ws := sumIf_congr _ _ (fun v _ => by
    unfold crossB crossTo
    rw [hl]
    simp only [hi])
  omega

/-! ### by sets of ways -/
def ifsOf (rs : List (Int × Int)) : List Int := rs.map (·.1)
theorem ifAt_eq {rs : List (Int × Int)} {i : Nat} (h : i < rs.length) : ifAt rs i = (ifsOf rs)[i]'(by simpa [ifsOf] using h) := by
  simp [ifAt, ifsOf, h]
def bitN (ifs : List Int) (x : Int) : Nat := if x ∈ ifs then 2 ^ ifs.idxOf x else 0
def waysTo (ifs : List Int) (xs : List Int) : Nat := xs.foldl (fun s x => s ||| bitN ifs x) 0
theorem waysTo_snoc (ifs xs : List Int) (x : Int) : waysTo ifs (xs ++ [x]) = waysTo ifs xs ||| bitN ifs x := by simp [waysTo, List.foldl_append]
theorem bitN_bit {ifs : List Int} (hn : ifs.Nodup) (x : Int) (i : Nat) : (bitN ifs x).testBit i = decide (∃ h : i < ifs.length, ifs[i] = x) := by
  unfold bitN
  split
  · rename_i hx
    rw [Nat.testBit_two_pow]
    congr 1
    apply propext
    constructor
    · rintro rfl
      exact ⟨List.idxOf_lt_length_of_mem hx, List.getElem_idxOf _⟩
    · rintro ⟨h, rfl⟩
      exact List.Nodup.idxOf_getElem hn i h
  · rename_i hx
    rw [Nat.zero_testBit]
    symm
    apply decide_eq_false
    rintro ⟨h, rfl⟩
    exact hx (List.getElem_mem h)
theorem waysTo_bit {ifs : List Int} (hn : ifs.Nodup) (i : Nat) : ∀ xs : List Int, (waysTo ifs xs).testBit i = xs.any fun x => decide (∃ h : i < ifs.length, ifs[i] = x) := by
  intro xs
  suffices h : ∀ (xs : List Int) (s : Nat), (xs.foldl (fun s x => s ||| bitN ifs x) s).testBit i = (s.testBit i || xs.any fun x => decide (∃ h : i < ifs.length, ifs[i] = x)) by
    unfold waysTo
    rw [h]
    simp
  intro xs
  induction xs with
  | nil => intro s; simp
  | cons x xs ih =>
    intro s
    rw [List.foldl_cons, ih, Nat.testBit_or, bitN_bit hn, List.any_cons, Bool.or_assoc]
theorem waysTo_in {rs : List (Int × Int)} (hn : (ifsOf rs).Nodup) (xs : List Int) (i : Nat) : (waysTo (ifsOf rs) xs).testBit i = (decide (i < rs.length) && xs.contains (ifAt rs i)) := by
  rw [waysTo_bit hn]
  by_cases h : i < rs.length
  · have h' : i < (ifsOf rs).length := by simpa [ifsOf] using h
    rw [ifAt_eq h, decide_eq_true h, Bool.true_and, Bool.eq_iff_iff]
    simp only [List.any_eq_true, decide_eq_true_eq, List.contains_iff_mem]
    constructor
    · rintro ⟨x, hx, _, rfl⟩
      exact hx
    · intro hx
      exact ⟨_, hx, h', rfl⟩
  · have h' : ¬ i < (ifsOf rs).length := by simpa [ifsOf] using h
    simp [h, h']
/-- does a set of ways leave a cut? -/
def crossN (ways set : Nat) : Bool := (List.range 10).any fun i => ways.testBit i && !set.testBit i
theorem crossN_eq {rs : List (Int × Int)} (hn : (ifsOf rs).Nodup) (hl : rs.length ≤ 10) (set : Nat) (v : FW) : crossN (waysTo (ifsOf rs) v.ways) set = crossB rs set v := by
  rw [Bool.eq_iff_iff]
  simp only [crossN, crossB, crossTo, List.any_eq_true, List.mem_range, Bool.and_eq_true, FW.via]
  constructor
  · rintro ⟨i, _, h1, h2⟩
    rw [waysTo_in hn] at h1
    simp at h1
    exact ⟨i, h1.1, h2, by simpa using h1.2⟩
  · rintro ⟨i, hi, h1, h2⟩
    exact ⟨i, by omega, by rw [waysTo_in hn]; simp at h2; simp [hi, h2], h1⟩
theorem bit_lt {n : Nat} (h : ∀ i, 10 ≤ i → n.testBit i = false) : n < 1024 := Nat.lt_pow_two_of_testBit n (n := 10) h
theorem waysTo_lt {rs : List (Int × Int)} (hn : (ifsOf rs).Nodup) (hl : rs.length ≤ 10) (xs : List Int) : waysTo (ifsOf rs) xs < 1024 :=
  bit_lt fun i hi => by
    rw [waysTo_in hn, decide_eq_false (by omega)]
    rfl
/-- how much goes by each set of ways -/
def byZ (l : List (Nat × Int)) (x : Int) : Int := capZ (sumIf (fun p => decide ((p.1 : Int) = x)) Prod.snd l)
theorem byZ_bd (l : List (Nat × Int)) (x : Int) : 0 ≤ byZ l x ∧ byZ l x ≤ 9007199254740991 := capZ_bd (sumIf_nonneg _ _ _)
theorem byZ_snoc_same (l : List (Nat × Int)) (x : Nat) (n : Int) : byZ (l ++ [(x, n)]) x = addZ (byZ l x) n := by
  unfold byZ
  rw [addZ_cap _ (sumIf_nonneg _ _ _), sumIf_snoc]
  simp
theorem byZ_snoc_other (l : List (Nat × Int)) (x : Nat) (n : Int) {y : Int} (h : y ≠ x) : byZ (l ++ [(x, n)]) y = byZ l y := by
  unfold byZ
  rw [sumIf_snoc]
  have : ¬ ((x : Int) = y) := fun e => h e.symm
  simp [this]
def pairsOf (ifs : List Int) (ws : List FW) : List (Nat × Int) := ws.map fun v => (waysTo ifs v.ways, v.n)
theorem wants_pairs {rs : List (Int × Int)} (hn : (ifsOf rs).Nodup) (hl : rs.length ≤ 10) (set : Nat) (ws : List FW) : sumIf (fun p => crossN p.1 set) Prod.snd (pairsOf (ifsOf rs) ws) = wantsOf rs set ws := by
  unfold pairsOf
  rw [sumIf_map]
  exact sumIf_congr _ _ (fun v _ => crossN_eq hn hl set v)
/-- what was summed up when some sets are left -/
def doneOf (l : List (Nat × Int)) (set : Nat) (left : Int → Bool) : Int := sumIf (fun p => crossN p.1 set && !left p.1) Prod.snd l
theorem doneOf_nonneg (l : List (Nat × Int)) (set : Nat) (left : Int → Bool) : 0 ≤ doneOf l set left := sumIf_nonneg _ _ _
theorem done_start (l : List (Nat × Int)) (set : Nat) (left : Int → Bool) (h : ∀ p ∈ l, left p.1 = true) : doneOf l set left = 0 := sumIf_none _ _ fun p hp => by rw [h p hp]; simp
theorem done_end (l : List (Nat × Int)) (set : Nat) (left : Int → Bool) (h : ∀ x, left x = false) : doneOf l set left = sumIf (fun p => crossN p.1 set) Prod.snd l := sumIf_congr _ _ fun p _ => by rw [h]; simp
theorem done_step (l : List (Nat × Int)) (set x : Nat) (left left' : Int → Bool) (hx : left x = true) (h : ∀ y, left' y = (left y && decide (y ≠ (x : Int)))) :
    doneOf l set left' = doneOf l set left + if crossN x set then sumIf (fun p => decide ((p.1 : Int) = x)) Prod.snd l else 0 := by
  cases hc : crossN x set with
  | true =>
    rw [if_pos rfl]
    refine sumIf_split _ _ (fun p _ => ?_) (fun p _ hp => ?_)
    · rw [h]
      by_cases e : (p.1 : Int) = x
      · have e' : p.1 = x := by omega
        simp [e', hc]
      · simp [e]
    · apply decide_eq_false
      intro e
      rw [e, hx] at hp
      simp at hp
  | false =>
    simp only [Bool.false_eq_true, if_false, Int.add_zero]
    refine sumIf_congr _ _ fun p _ => ?_
    rw [h]
    by_cases e : (p.1 : Int) = x
    · have e' : p.1 = x := by omega
      simp [e', hc]
    · simp [e]

/-! ### the rooms of a set, from the lowest bit on -/
def lowOk (m : Nat) : Bool := m == 0 || (decide (Lib.ctz 64 m < 10) && m.testBit (Lib.ctz 64 m) && decide (m &&& (m - 1) < m) && (List.range 10).all fun j => (m &&& (m - 1)).testBit j == (m.testBit j && j != Lib.ctz 64 m))
theorem low_all : (List.range 1024).all lowOk = true := by decide +kernel
theorem low_bit (m : Nat) (h : m < 1024) (h0 : m ≠ 0) : Lib.ctz 64 m < 10 ∧ m.testBit (Lib.ctz 64 m) = true ∧ m &&& (m - 1) < m ∧ ∀ j, j < 10 → (m &&& (m - 1)).testBit j = (m.testBit j && j != Lib.ctz 64 m) := by
  have := List.all_eq_true.1 low_all m (List.mem_range.2 h)
  simp only [lowOk, Bool.or_eq_true, Bool.and_eq_true, decide_eq_true_eq, List.all_eq_true, List.mem_range, beq_iff_eq] at this
  rcases this with h | ⟨⟨⟨h1, h2⟩, h3⟩, h4⟩
  · exact absurd h h0
  · exact ⟨h1, h2, h3, h4⟩
def gotOf (rs : List (Int × Int)) (set m : Nat) : Int := sumIf (fun i => set.testBit i && !m.testBit i) (roomAt rs) (List.range rs.length)
theorem gotOf_nonneg (rs : List (Int × Int)) (set m : Nat) : 0 ≤ gotOf rs set m := sumIf_nonneg _ _ _
theorem got_start (rs : List (Int × Int)) (set : Nat) : gotOf rs set set = 0 := sumIf_none _ _ fun i _ => by simp
theorem got_end (rs : List (Int × Int)) (set : Nat) : gotOf rs set 0 = roomsTo rs set rs.length := sumIf_congr _ _ fun i _ => by simp
theorem sum_one (f : Nat → Int) (k : Nat) : ∀ n, k < n → sumIf (fun i => decide (i = k)) f (List.range n) = nearZ (f k)
  | 0, h => by omega
  | n + 1, h => by
    rw [List.range_succ, sumIf_snoc]
    by_cases e : n = k
    · subst e
      rw [sumIf_none _ _ (fun i hi => by have := List.mem_range.1 hi; exact decide_eq_false (by omega))]
      simp
    · rw [sum_one f k n (by omega)]
      simp [e]
theorem got_step (rs : List (Int × Int)) (hl : rs.length ≤ 10) (set m : Nat) (hs : set < 2 ^ rs.length) (hm : ∀ i, m.testBit i = true → set.testBit i = true) (h0 : m ≠ 0) :
    Lib.ctz 64 m < rs.length ∧ m &&& (m - 1) < m ∧ (∀ i, (m &&& (m - 1)).testBit i = true → set.testBit i = true) ∧ gotOf rs set (m &&& (m - 1)) = gotOf rs set m + nearZ (roomAt rs (Lib.ctz 64 m)) := by
  have hm1 : m < 1024 := bit_lt fun i hi => by
    cases hb : m.testBit i with
    | false => rfl
    | true =>
      have h1 := hm i hb
      have : set < 2 ^ i := Nat.lt_of_lt_of_le hs (Nat.pow_le_pow_right (by decide) (by omega))
      rw [Nat.testBit_lt_two_pow this] at h1
      cases h1
  obtain ⟨h1, h2, h3, h4⟩ := low_bit m hm1 h0
  have hk : Lib.ctz 64 m < rs.length := by
    rcases Nat.lt_or_ge (Lib.ctz 64 m) rs.length with h | h
    · exact h
    · have := hm _ h2
      rw [Nat.testBit_lt_two_pow (Nat.lt_of_lt_of_le hs (Nat.pow_le_pow_right (by decide) h))] at this
      cases this
  refine ⟨hk, h3, fun i hi => hm i (by rw [Nat.testBit_and] at hi; simp at hi; exact hi.1), ?_⟩
  rw [← sum_one (roomAt rs) (Lib.ctz 64 m) rs.length hk]
  generalize Lib.ctz 64 m = k at *
  refine sumIf_split _ _ (fun i hi => ?_) (fun i hi hp => ?_)
  · have hi := List.mem_range.1 hi
    rw [h4 i (by omega)]
    by_cases e : i = k
    · subst e
      simp [hm i h2]
    · have e1 : (i != k) = true := by simpa using e
      have e2 : decide (i = k) = false := by simpa using e
      rw [e1, e2]
      simp
  · apply decide_eq_false
    rintro rfl
    rw [h2] at hp
    simp at hp
end Go.Proofs.YtpbghlobkdjpiaaDoor
