/-
  The whole of TopNames, worked out: it returns true in every world in which the program's tables are laid, and leaves what was there as it was.
-/
import Derived.Test.YtojcehhfeleclaaGreatDoorTopD
import Derived.Test.YtojcehhfeleclaaGreatDoorTopE0
import Derived.Test.YtojcehhfeleclaaGreatDoorTopE1
import Derived.Test.YtojcehhfeleclaaGreatDoorTopE2
import Derived.Test.YtojcehhfeleclaaGreatDoorTopE3
import Derived.Test.YtojcehhfeleclaaGreatDoorTopE4
import Derived.Test.YtojcehhfeleclaaGreatDoorTopE5
import Derived.Test.YtojcehhfeleclaaGreatDoorTopE6
import Derived.Test.YtojcehhfeleclaaGreatDoorTopE7
import Derived.Test.YtojcehhfeleclaaGreatDoorTopE8
import Derived.Test.YtojcehhfeleclaaGreatDoorTopE9
import Derived.Test.YtojcehhfeleclaaGreatDoorTopE10
namespace Go.Proofs.YtojcehhfeleclaaGreatDoor
open Go.ChangeShapes Go.WideShapes Go.ChangeAt Go.RowKit Go.Shelf

/-! ### the program's tables -/
def ints (k : IntKind) (zs : List Int) : List Ev.AV := zs.map fun z => .int k z
def strs (ss : List (List UInt8)) : List Ev.AV := ss.map fun s => .str s
def wordsV : List (List UInt8) := [[97, 115], [105, 100], [104, 111, 108, 100], [114, 101, 116, 114, 121], [114, 111, 117, 116, 101, 114, 115], [99, 111, 117, 110, 116, 115], [99, 97, 114, 114, 105, 101, 115], [104, 105, 103, 104], [108, 111, 119], [109, 111, 118, 101, 115], [99, 121, 99, 108, 101], [115, 116, 97, 108, 101], [119, 97, 114, 109], [101, 120, 112, 105, 114, 101], [112, 114, 101, 102], [108, 111, 110, 103, 101, 114], [114, 111, 117, 116, 101, 115], [113, 117, 101, 117, 101]]
def pow10V : List Int := [1, 10, 100, 1000, 10000, 100000, 1000000, 10000000, 100000000, 1000000000, 10000000000, 100000000000, 1000000000000, 10000000000000, 100000000000000, 1000000000000000, 10000000000000000, 100000000000000000, 1000000000000000000, 10000000000000000000]
def leastV : List Int := [0, 29, 23, 21, 19]
def d32V : List Int := [0, 1, 28, 2, 29, 14, 24, 3, 30, 22, 20, 15, 25, 17, 4, 8, 31, 27, 13, 23, 21, 19, 16, 7, 26, 12, 18, 6, 11, 5, 10, 9]
def d64V : List Int := [0, 1, 56, 2, 57, 49, 28, 3, 61, 58, 42, 50, 38, 29, 17, 4, 62, 47, 59, 36, 45, 43, 51, 22, 53, 39, 33, 30, 24, 18, 12, 5, 63, 55, 48, 27, 60, 41, 37, 16, 46, 35, 44, 21, 52, 32, 23, 11, 54, 26, 40, 15, 34, 20, 31, 10, 25, 14, 19, 9, 13, 8, 7, 6]
noncomputable def globs : List (Nat × Ev.Blk) := [(0, tR 245 0 18 (strs wordsV)), (2, tR 655 0 20 (ints .u64 pow10V)), (3, tR 684 0 5 (ints .i64 leastV)), (8, tR 758 0 32 (ints .u8 d32V)), (9, tR 759 0 64 (ints .u8 d64V))]
noncomputable def hp0 : Ev.Hp := Ev.putL globs (.mk .lf 12 [])
noncomputable def topQ (r : Option (Ev.AV × Ev.Hp)) : Bool := match r with
  | some (.bool true, _) => true
  | _ => false
theorem top_run : topQ (Ev.callQ Tryz.prog 12 (cfgT [tab1, tab2, tab9, tab10]) 40 4 [] hp0) = true := by kernel_rfl
theorem rel_ints {φ : Ev.Phi} (k : IntKind) : ∀ zs : List Int, Ev.RelL φ (ints k zs) (zs.map fun z => Value.int k z)
  | [] => by simp [ints]
  | z :: zs => Ev.relL_cons_cons.2 ⟨by simp only [Ev.RelV], rel_ints k zs⟩
theorem rel_strs {φ : Ev.Phi} : ∀ ss : List (List UInt8), Ev.RelL φ (strs ss) (ss.map fun s => Value.string ⟨s.toArray⟩)
  | [] => by simp [strs]
  | z :: zs => Ev.relL_cons_cons.2 ⟨by simp only [Ev.RelV], rel_strs zs⟩
/-- a table of the program as the evaluator has it -/
def gOk (W : World) (x : Nat × Ev.Blk) : Prop := x.1 < 12 ∧ ∃ e n l vs, x.2 = tR e 0 n l ∧ W.heap[x.1]? = some (.cells vs e (0, 0)) ∧ l.length = n ∧ ∀ φ : Ev.Phi, Ev.RelL φ l vs.toList
def sizeAt (W : World) (b : Nat) : Nat := match W.heap[b]? with
  | some (.cells c _ _) => c.size
  | _ => 0
def phi0 (W : World) : Ev.Phi := fun b => if b < 12 then some ⟨b, 0, 0, sizeAt W b⟩ else none
theorem init_ok {W : World} {l : List (Nat × Ev.Blk)} (h : ∀ x ∈ l, gOk W x) : Ev.SRel 12 (phi0 W) (Ev.putL l (.mk .lf 12 [])) W := by
  have hg : ∀ {b x}, (Ev.putL l (.mk .lf 12 [])).get b = some x → gOk W (b, x) := fun {b x} hb => by
    rcases Ev.putL_get l (.mk .lf 12 []) b with ⟨y, h1, h2⟩ | h2
    · rw [hb] at h2; injection h2 with h2; subst h2; exact h _ h1
    · rw [hb] at h2
      have : (Ev.Hp.mk .lf 12 []).get b = none := Ev.PT.get_lf _
      rw [this] at h2; cases h2
  have hphi : ∀ {b p}, phi0 W b = some p → b < 12 ∧ p = ⟨b, 0, 0, sizeAt W b⟩ := fun {b p} hb => by
    unfold phi0 at hb
    split at hb
    · rename_i hlt; injection hb with hb; exact ⟨hlt, hb.symm⟩
    · cases hb
  refine ⟨⟨?_, ?_⟩, ?_, ?_, ?_⟩
  · intro b x hb
    obtain ⟨hlt, e, n, as', vs, h1, h2, h3, h4⟩ := hg hb
    have h1 : x = tR e 0 n as' := h1
    have h2 : W.heap[b]? = some (.cells vs e (0, 0)) := h2
    subst h1
    have hs : sizeAt W b = vs.size := by unfold sizeAt; rw [h2]
    have hl := (h4 (phi0 W)).length
    refine ⟨⟨b, 0, 0, sizeAt W b⟩, _, by unfold phi0; rw [if_pos hlt], h2, ?_⟩
    refine ⟨rfl, vs, (0, 0), rfl, hs.symm, ?_, ?_, fun k _ hk => absurd hk.2 (Nat.not_lt_zero _)⟩
    · show 0 + (n - 0) ≤ sizeAt W b
      rw [hs]
      simp at hl
      omega
    · intro i a hi
      rw [← h3] at hi
      obtain ⟨v, k1, k2⟩ := (h4 (phi0 W)).get (Ev.cellA_mkRow hi)
      refine ⟨v, ?_, k2⟩
      simpa using k1
  · intro b c x y p q hb hc hp hq e
    obtain ⟨_, rfl⟩ := hphi hp
    obtain ⟨_, rfl⟩ := hphi hq
    exact e
  · intro b p hb
    rw [Ev.putL_next]
    exact (hphi hb).1
  · intro g hg
    exact ⟨sizeAt W g, by unfold phi0; rw [if_pos hg]⟩
  · intro b p hb
    obtain ⟨_, rfl⟩ := hphi hb
    exact Nat.le_refl _
/-! ### what is known of calls -/
theorem mixed : Tryz.prog.follows .mixedOrders = true := by kernel_rfl
theorem cfg_ok {tabs : List Ev.Tab} (h : ∀ t ∈ tabs, Ev.SummP Tryz.prog 12 t.f (Ev.tabSumm t)) : Ev.MergeOk Tryz.prog 12 (cfgT tabs) := Ev.cfgOf_ok paths_summ h
theorem none_ok : ∀ t ∈ ([] : List Ev.Tab), Ev.SummP Tryz.prog 12 t.f (Ev.tabSumm t) := fun t ht => by simp at ht
theorem more_ok {a : Ev.Tab} {l : List Ev.Tab} (ha : Ev.SummP Tryz.prog 12 a.f (Ev.tabSumm a)) (hl : ∀ t ∈ l, Ev.SummP Tryz.prog 12 t.f (Ev.tabSumm t)) : ∀ t ∈ a :: l, Ev.SummP Tryz.prog 12 t.f (Ev.tabSumm t) := fun t ht => by
  rcases List.mem_cons.1 ht with rfl | ht
  · exact ha
  · exact hl t ht
theorem sum0 : Ev.SummP Tryz.prog 12 tab0.f (Ev.tabSumm tab0) := Ev.tab_ok mixed funcsOk (cfg_ok none_ok) (by kernel_rfl) chk0
theorem sum1 : Ev.SummP Tryz.prog 12 tab1.f (Ev.tabSumm tab1) := Ev.tab_ok mixed funcsOk (cfg_ok none_ok) (by kernel_rfl) chk1
theorem sum2 : Ev.SummP Tryz.prog 12 tab2.f (Ev.tabSumm tab2) := Ev.tab_ok mixed funcsOk (cfg_ok none_ok) (by kernel_rfl) chk2
theorem sum3 : Ev.SummP Tryz.prog 12 tab3.f (Ev.tabSumm tab3) := Ev.tab_ok mixed funcsOk (cfg_ok none_ok) (by kernel_rfl) chk3
theorem sum4 : Ev.SummP Tryz.prog 12 tab4.f (Ev.tabSumm tab4) := Ev.tab_ok mixed funcsOk (cfg_ok none_ok) (by kernel_rfl) chk4
theorem sum5 : Ev.SummP Tryz.prog 12 tab5.f (Ev.tabSumm tab5) := Ev.tab_ok mixed funcsOk (cfg_ok (more_ok sum4 none_ok)) (by kernel_rfl) chk5
theorem sum6 : Ev.SummP Tryz.prog 12 tab6.f (Ev.tabSumm tab6) := Ev.tab_ok mixed funcsOk (cfg_ok none_ok) (by kernel_rfl) chk6
theorem sum7 : Ev.SummP Tryz.prog 12 tab7.f (Ev.tabSumm tab7) := Ev.tab_ok mixed funcsOk (cfg_ok none_ok) (by kernel_rfl) chk7
theorem sum8 : Ev.SummP Tryz.prog 12 tab8.f (Ev.tabSumm tab8) := Ev.tab_ok mixed funcsOk (cfg_ok (more_ok sum7 none_ok)) (by kernel_rfl) chk8
theorem sum9 : Ev.SummP Tryz.prog 12 tab9.f (Ev.tabSumm tab9) := Ev.tab_ok mixed funcsOk (cfg_ok (more_ok sum3 (more_ok sum6 none_ok))) (by kernel_rfl) chk9
theorem sum10 : Ev.SummP Tryz.prog 12 tab10.f (Ev.tabSumm tab10) := Ev.tab_ok mixed funcsOk (cfg_ok (more_ok sum0 (more_ok sum5 (more_ok sum8 none_ok)))) (by kernel_rfl) chk10
theorem cfg_top : Ev.MergeOk Tryz.prog 12 (cfgT [tab1, tab2, tab9, tab10]) := cfg_ok (more_ok sum1 (more_ok sum2 (more_ok sum9 (more_ok sum10 none_ok))))
theorem topQ_ok {r : Option (Ev.AV × Ev.Hp)} (h : topQ r = true) : ∃ h', r = some (.bool true, h') := by
  unfold topQ at h
  split at h
  · rename_i h'; exact ⟨h', rfl⟩
  · cases h
theorem top_walk (W : World) (hg : ∀ x ∈ globs, gOk W x) : Calls Tryz.prog 4 #[] W fun e W' => e = .returned (.bool true) ∧ Below W.heap.size W W' := by
  obtain ⟨h', hr⟩ := topQ_ok top_run
  rw [Ev.callQ_eq] at hr
  refine (Ev.callN_ok mixed funcsOk cfg_top 40 4 [] hp0 (.bool true) h' hr (by kernel_rfl) (phi0 W) W #[] (init_ok hg) (by simp)).mono ?_
  rintro e W' ⟨u, φ', rfl, t, hu⟩
  simp only [Ev.RelV] at hu
  subst hu
  refine ⟨rfl, t.env.1, t.env.2.1, t.env.2.2, t.size, fun k hk => t.same k hk ?_⟩
  rintro ⟨b, x, p, h1, h2, h3, h4⟩
  have := (init_ok hg).lt b p h3
  rw [Ev.putL_next] at this
  have h5 : b < 12 := this
  omega
end Go.Proofs.YtojcehhfeleclaaGreatDoor
