/-
  Flow: whole numbers' bits, wants and options as values, maps and rows below a bound. No condition.
-/
import Derived.Test.YtpbghlobkdjpiaaDoorFlowP
import Derived.Test.YtpbghlobkdjpiaaDoorBytes
import Derived.Maps.OwnOps
import Derived.Maps.OwnSet
import Derived.Deep.MidRow
import Derived.Laws.BitsLemmas
import Derived.LoopTactic
namespace Go.Proofs.YtpbghlobkdjpiaaDoor
open Go.ChangeShapes Go.WideShapes Go.ChangeAt Go.RowKit Go.Maps

/-! ### bits -/
theorem wraps_i64 (n : Int) (h₀ : 0 ≤ n) (h₁ : n < 2 ^ 63) : IntKind.i64.wrap n = n := by rw [IntKind.wrap_i64]; omega
theorem bits_or_n (a b : Nat) (ha : a < 2 ^ 63) (hb : b < 2 ^ 63) : bits .or .i64 (a : Int) (b : Int) = ((a ||| b : Nat) : Int) := (bits_nat .i64 63 (by decide) wraps_i64 a b ha hb).2
theorem bits_and_n (a b : Nat) (ha : a < 2 ^ 63) (hb : b < 2 ^ 63) : bits .and .i64 (a : Int) (b : Int) = ((a &&& b : Nat) : Int) := (bits_nat .i64 63 (by decide) wraps_i64 a b ha hb).1
theorem wrap_pow (i : Nat) (h : i ≤ 10) : wrap64 ((2 : Int) ^ i) = ((2 ^ i : Nat) : Int) := by
  have h1 : 2 ^ i ≤ 2 ^ 10 := Nat.pow_le_pow_right (by decide) h
  rw [show ((2 : Int) ^ i) = ((2 ^ i : Nat) : Int) by simp]
  generalize 2 ^ i = k at h1 ⊢
  exact IntWalk.wrap64_in _ ⟨by omega, by omega⟩
theorem or_1024 {a b : Nat} (ha : a < 1024) (hb : b < 1024) : a ||| b < 1024 := Nat.or_lt_two_pow (n := 10) ha hb
theorem crossN_iff (a b : Nat) (ha : a < 1024) : crossN a b = true ↔ (BitVec.ofNat 64 a &&& ~~~BitVec.ofNat 64 b) ≠ 0 := by
  constructor
  · intro h e
    obtain ⟨i, hi, h1⟩ := List.any_eq_true.1 h
    have hi := List.mem_range.1 hi
    have h2 : (BitVec.ofNat 64 a &&& ~~~BitVec.ofNat 64 b).getLsbD i = false := by rw [e]; simp
    simp only [BitVec.getLsbD_and, BitVec.getLsbD_not, BitVec.getLsbD_ofNat] at h2
    simp only [Bool.and_eq_true] at h1
    have hlt : decide (i < 64) = true := decide_eq_true (by omega)
    rw [hlt, h1.1] at h2
    have h3 := h1.2
    cases hb : b.testBit i <;> simp [hb] at h2 h3
  · intro h
    cases hc : crossN a b with
    | true => rfl
    | false =>
      refine absurd (BitVec.eq_of_getLsbD_eq fun i hi => ?_) h
      simp only [BitVec.getLsbD_and, BitVec.getLsbD_not, BitVec.getLsbD_ofNat]
      by_cases h10 : i < 10
      · have := List.any_eq_false.1 hc i (List.mem_range.2 h10)
        cases ha : a.testBit i <;> cases hb : b.testBit i <;> simp [ha, hb] at this ⊢
      · have : a.testBit i = false := Nat.testBit_lt_two_pow (Nat.lt_of_lt_of_le ha (show 2 ^ 10 ≤ 2 ^ i from Nat.pow_le_pow_right (by decide) (by omega)))
        simp [this]
theorem bits_andNot_n (a b : Nat) (ha : a < 1024) : (bits .andNot .i64 (a : Int) (b : Int) = 0) ↔ crossN a b = false := by
  have h1 : (BitVec.ofNat 64 a &&& ~~~BitVec.ofNat 64 b).toNat < 1024 := by
    rw [BitVec.toNat_and]
    refine Nat.lt_of_le_of_lt Nat.and_le_left ?_
    simp
    omega
  have h2 : bits .andNot .i64 (a : Int) (b : Int) = ((BitVec.ofNat 64 a &&& ~~~BitVec.ofNat 64 b).toNat : Int) := by
    show IntKind.i64.wrap (((BitVec.ofInt 64 (a : Int) &&& ~~~BitVec.ofInt 64 (b : Int)).toNat : Nat) : Int) = _
    rw [BitVec.ofInt_natCast, BitVec.ofInt_natCast]
    exact wraps_i64 _ (by omega) (by omega)
  rw [h2]
  have h3 := crossN_iff a b ha
  constructor
  · intro h
    cases hc : crossN a b with
    | false => rfl
    | true => exact absurd (BitVec.eq_of_toNat_eq (by simpa using h)) (h3.1 hc)
  · intro h
    have : ¬ ((BitVec.ofNat 64 a &&& ~~~BitVec.ofNat 64 b) ≠ 0) := fun hne => by rw [h3.2 hne] at h; cases h
    rw [Classical.not_not.1 this]
    rfl

/-! ### values -/
/-- an option: its cells; its interface -/
structure OV where
  cs : Array Value
  f : Int
structure OV.ok (o : OV) : Prop where
  size : o.cs.size = 11
  face : o.cs[10]? = some (.int .i64 o.f)
  wf : (Lit.int .i64 o.f).wf = true
  one : o.cs.all (·.oneCell') = true
/-- a want: its cells; how much; its first choice's interface; its detours -/
structure WV where
  cs : Array Value
  n : Int
  f : Int
  D : Option Addr
  dc : Nat
  ds : List OV
structure WV.ok (v : WV) : Prop where
  size : v.cs.size = 16
  num : v.cs[2]? = some (.int .i64 v.n)
  face : v.cs[13]? = some (.int .i64 v.f)
  dets : v.cs[14]? = some (.slice v.D v.ds.length v.dc)
  wf : (Lit.int .i64 v.f).wf = true
  one : v.cs.all (·.oneCell') = true
  all : ∀ o ∈ v.ds, o.ok
  len : v.ds.length ≤ 9223372036854775807
def WV.fw (v : WV) : FW := ⟨v.n, v.f :: v.ds.map OV.f⟩
def optCells (ds : List OV) : List Value := ds.flatMap fun o => o.cs.toList
def wantCells (ws : List WV) : List Value := ws.flatMap fun v => v.cs.toList

theorem flat_len {Y : Type} (f : Y → List Value) (sz : Nat) : ∀ (ys : List Y), (∀ y ∈ ys, (f y).length = sz) → (ys.flatMap f).length = ys.length * sz
  | [], _ => by simp
  | y :: ys, h => by
    rw [List.flatMap_cons, List.length_append, h y (by simp), flat_len f sz ys (fun y hy => h y (by simp [hy])), List.length_cons, Nat.succ_mul]
    omega
theorem flat_get {Y : Type} (f : Y → List Value) (sz : Nat) : ∀ (ys : List Y), (∀ y ∈ ys, (f y).length = sz) → ∀ (k : Nat) (hk : k < ys.length) (j : Nat), j < sz → (ys.flatMap f)[k * sz + j]? = (f ys[k])[j]?
  | [], _, k, hk, _, _ => by simp at hk
  | y :: ys, h, 0, hk, j, hj => by
    rw [List.flatMap_cons, List.getElem?_append_left (by rw [h y (by simp)]; omega)]
    simp
  | y :: ys, h, k + 1, hk, j, hj => by
    have hl := h y (by simp)
    rw [List.flatMap_cons, List.getElem?_append_right (by rw [hl, Nat.succ_mul]; omega), hl]
    have e : (k + 1) * sz + j - sz = k * sz + j := by rw [Nat.succ_mul]; omega
    rw [e, flat_get f sz ys (fun y hy => h y (by simp [hy])) k (by simpa using hk) j hj]
    rfl
theorem Reads.rangeAt {Y : Type} {w : World} {F : Nat → Prop} {A : Option Addr} {f : Y → List Value} {sz : Nat} {ys : List Y} (hr : Reads w F A (ys.flatMap f)) (hs : 0 < sz) (hf : ∀ y ∈ ys, (f y).length = sz) {k : Nat} (hk : k < ys.length) :
    ∃ b off, A = some ⟨b, off, none⟩ ∧ F b ∧ b < w.heap.size ∧ w.rangeAt b (off + k * sz) (f ys[k]) := by
  rcases hr with h | ⟨b, off, e, hF, hl, hc⟩
  · have := flat_len f sz ys hf
    rw [h] at this
    have h1 : ys.length * sz = 0 := by simpa using this.symm
    rcases Nat.mul_eq_zero.1 h1 with h | h <;> omega
  · refine ⟨b, off, e, hF, hl, fun j v hj => ?_⟩
    have hjs : j < sz := by
      have := (List.getElem?_eq_some_iff.1 hj).1
      rw [hf _ (List.getElem_mem hk)] at this
      exact this
    rw [Nat.add_assoc]
    exact hc _ _ (by rw [flat_get f sz ys hf k hk j hjs]; exact hj)
theorem optsLen {ds : List OV} (h : ∀ o ∈ ds, o.ok) : ∀ o ∈ ds, (OV.cs o).toList.length = 11 := fun o ho => by simpa using (h o ho).size
theorem wantsLen {ws : List WV} (h : ∀ v ∈ ws, v.ok) : ∀ v ∈ ws, (WV.cs v).toList.length = 16 := fun v hv => by simpa using (h v hv).size

/-! ### below a bound -/
theorem below_a1 (w : World) (o : Obj) : Below w.heap.size w (w.alloc o) := (Below.refl _ _).alloc (Nat.le_refl _) _
theorem below_a2 (w : World) (o o' : Obj) : Below w.heap.size w ((w.alloc o).alloc o') := (below_a1 w o).alloc (by simp) _
theorem ownsMap_below {w w' : World} {P : Program} {k : TypeId} {R : Value → Option (DataW Unit × List MemPlace)} {b n : Nat} {D : DataW Unit} (h : w.ownsMap P k R b n D) {B : Nat} (hb : Below B w w') (hlt : b < B) : w'.ownsMap P k R b n D := by
  obtain ⟨es, clock, he, F, hs, hD⟩ := h
  exact ⟨es, clock, (hb.block b hlt).trans he, F, hs, hD⟩
theorem below_grown {B : Nat} {w0 w w' : World} {row : Option Nat} (h : Below B w0 w) (hB : B ≤ w.heap.size) (hg : w.grownBy w' row) (hr : ∀ k, row = some k → B ≤ k) : Below B w0 w' := h.grown hg hB hr
end Go.Proofs.YtpbghlobkdjpiaaDoor
