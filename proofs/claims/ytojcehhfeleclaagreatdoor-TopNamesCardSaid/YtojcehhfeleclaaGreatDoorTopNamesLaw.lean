/-
  TopNames, proved: for every call the statement's function returns true and leaves what was there as it was. No condition.
-/
import Derived.Test.YtojcehhfeleclaaGreatDoorRows
import Derived.Test.YtojcehhfeleclaaGreatDoorCards
import Derived.Test.YtojcehhfeleclaaGreatDoorTieC
import Derived.Test.YtojcehhfeleclaaGreatDoorTopF
import Derived.Test.YtojcehhfeleclaaGreatDoorTopJ
import Derived.Test.YtojcehhfeleclaaGreatDoorTopK
import Derived.LaidMore
import Derived.Stop.Joined
import Derived.Stop.LaidErr
import Derived.Lib.LaidTab
import Derived.MakeChecks
import Derived.SevenTiedAt
namespace Go.Proofs.YtojcehhfeleclaaGreatDoor.topNamesLaw
open Go.ChangeShapes Go.WideShapes Go.ChangeAt Go.RowKit

theorem own : ownKnob Tryz.prog.godebug = none := by kernel_rfl

/-! ### the tables as they are laid are the tables of the evaluator -/
theorem laid_at {P : Program} {W : World} : ∀ {l : List (String × DataW Unit)} {ps : List MemPlace}, DataW.LaidVars P W l ps → ∀ {n : String} {d : DataW Unit}, (n, d) ∈ l →
    ∃ g t cs fuel p, P.globalNamed n = some g ∧ (P.globals[g]?).map (·.type) = some t ∧ W.var? P n = some cs ∧ DataW.trod (fun _ => ()) P W 0 (fun _ => true) false fuel t cs.toList = some (d, p)
  | [], _, _, _, _, hm => by simp at hm
  | (n0, d0) :: l, ps, h, n, d, hm => by
    obtain ⟨g, t, cs, fuel, p, q, h1, h2, h3, h4, h5, _⟩ := h
    rcases List.mem_cons.1 hm with hm | hm
    · injection hm with e1 e2
      subst e1 e2
      exact ⟨g, t, cs, fuel, p, h1, h2, h3, h4⟩
    · exact laid_at h5 hm
theorem cells_of_strs {H : Type} {enc : TypeId × Value → H} {P : Program} {w : World} {base : Nat} {sp : Nat → Bool} {held : Bool} {fuel : Nat} {t e : TypeId} {n : Nat} {cs : List Value} {ss : List (List UInt8)} {p : List MemPlace}
    (ht : P.underlying t = some (.array n e)) (he : P.underlying e = some .string) (hce : P.cellsOf e = 1)
    (h : DataW.trod enc P w base sp held fuel t cs = some (.agg (ss.map fun s => .lit (.string s)), p)) (hct : P.cellsOf t = n) : cs = ss.map fun s => Value.string ⟨s.toArray⟩ := by
  cases fuel with
  | zero => simp [DataW.trod] at h
  | succ fuel =>
    simp only [DataW.trod, ht, hce, hct, Nat.mul_one] at h
    split at h
    · rename_i hl
      obtain ⟨xs, hm, hx⟩ := Option.map_eq_some_iff.1 h
      have hxs : xs.map (·.1) = ss.map fun s => (DataW.lit (.string s) : DataW H) := by
        have := congrArg Prod.fst hx
        simpa using this
      have hxl : xs.length = n := by simpa using Lib.mapM_length hm
      have hsl : ss.length = n := by
        have := congrArg List.length hxs
        simp at this
        omega
      apply List.ext_getElem?
      intro i
      rcases Nat.lt_or_ge i n with hi | hi
      · obtain ⟨b, hb, hf⟩ := Lib.mapM_at hm i i (by simp [hi])
        obtain ⟨s, hc, rfl, _⟩ := DataW.trod_string he hf
        have h1 : cs[i]? = some (.string s) := by
          have := congrArg (·[0]?) hc
          simpa [List.getElem?_take, List.getElem?_drop] using this
        have h2 : (xs.map (·.1))[i]? = some (DataW.lit (.string s.data.toList) : DataW H) := by simp [hb]
        rw [hxs] at h2
        simp only [List.getElem?_map, Option.map_eq_some_iff, DataW.lit.injEq, Lit.string.injEq] at h2
        obtain ⟨s', hs', e'⟩ := h2
        rw [h1, List.getElem?_map, hs', e']
        rfl
      · rw [List.getElem?_eq_none (by omega), List.getElem?_eq_none (by simp; omega)]
    · cases h
/-- where a table lies, of which type -/
theorem shaped_at {P : Program} {W : World} (hs : W.ShapedOpen P) {g : Nat} {t : TypeId} (hlt : g < P.globals.size) (hz : (((begin P (fun _ _ => 0) default).world.heap[g]?).bind Obj.row?).map (·.2) = some t) :
    ∃ cs, W.heap[g]? = some (.cells cs t (0, 0)) := by
  cases hr : ((begin P (fun _ _ => 0) default).world.heap[g]?).bind Obj.row? with
  | none => rw [hr] at hz; cases hz
  | some x =>
    obtain ⟨zero, t'⟩ := x
    rw [hr] at hz
    injection hz with hz
    have hz : t' = t := hz
    subst hz
    obtain ⟨cs, h1, _⟩ := hs.1 g zero t' hlt hr
    exact ⟨cs, h1⟩
theorem tab_at {W : World} (hs : W.ShapedOpen Tryz.prog) {n : String} {g : Nat} {t : TypeId} {k : Nat} {l : List Ev.AV} {vs : List Value} (hg : Tryz.prog.globalNamed n = some g) (hlt : g < Tryz.prog.globals.size) (h12 : g < 12)
    (hz : (((begin Tryz.prog (fun _ _ => 0) default).world.heap[g]?).bind Obj.row?).map (·.2) = some t) (hv : ∃ cs, W.var? Tryz.prog n = some cs ∧ cs.toList = vs) (hl : l.length = k) (hr : ∀ φ : Ev.Phi, Ev.RelL φ l vs) : gOk W (g, tR t 0 k l) := by
  obtain ⟨cs, h1⟩ := shaped_at hs hlt hz
  obtain ⟨cs', h2, rfl⟩ := hv
  refine ⟨h12, t, k, l, cs', rfl, ?_, hl, hr⟩
  show W.heap[g]? = _
  have : W.var? Tryz.prog n = some cs := by
    unfold World.var?
    rw [hg]
    simp [h1]
  rw [this] at h2
  injection h2 with h2
  subst h2
  exact h1
theorem int_at {W : World} {laid : List (String × DataW Unit)} {ps : List MemPlace} (hL : DataW.LaidVars Tryz.prog W laid ps) {n : String} {g : Nat} {t e : TypeId} {m : Nat} {k : IntKind} {zs : List Int} (hm : (n, Lib.tabData k zs) ∈ laid)
    (hg : Tryz.prog.globalNamed n = some g) (hty : (Tryz.prog.globals[g]?).map (·.type) = some t) (ht : Tryz.prog.underlying t = some (.array m e)) (he : Tryz.prog.underlying e = some (.int k)) (hce : Tryz.prog.cellsOf e = 1) (hct : Tryz.prog.cellsOf t = m) :
    ∃ cs, W.var? Tryz.prog n = some cs ∧ cs.toList = zs.map fun z => Value.int k z := by
  obtain ⟨g', t', cs, fuel, p, h1, h2, h3, h4⟩ := laid_at hL hm
  obtain rfl := Option.some.inj (hg.symm.trans h1)
  obtain rfl := Option.some.inj (hty.symm.trans h2)
  exact ⟨cs, h3, Lib.cells_of_tab ht he hce hct h4⟩
theorem str_at {W : World} {laid : List (String × DataW Unit)} {ps : List MemPlace} (hL : DataW.LaidVars Tryz.prog W laid ps) {n : String} {g : Nat} {t e : TypeId} {m : Nat} {ss : List (List UInt8)} (hm : (n, DataW.agg (ss.map fun s => .lit (.string s))) ∈ laid)
    (hg : Tryz.prog.globalNamed n = some g) (hty : (Tryz.prog.globals[g]?).map (·.type) = some t) (ht : Tryz.prog.underlying t = some (.array m e)) (he : Tryz.prog.underlying e = some .string) (hce : Tryz.prog.cellsOf e = 1) (hct : Tryz.prog.cellsOf t = m) :
    ∃ cs, W.var? Tryz.prog n = some cs ∧ cs.toList = ss.map fun s => Value.string ⟨s.toArray⟩ := by
  obtain ⟨g', t', cs, fuel, p, h1, h2, h3, h4⟩ := laid_at hL hm
  obtain rfl := Option.some.inj (hg.symm.trans h1)
  obtain rfl := Option.some.inj (hty.symm.trans h2)
  exact ⟨cs, h3, cells_of_strs ht he hce h4 hct⟩
theorem globs_ok {W : World} (hs : W.ShapedOpen Tryz.prog) (hL : laidMetH Tryz.prog Rows.topNamesRow.laid W) : ∀ x ∈ globs, gOk W x := by
  rw [MakeChecks.laidMetH_plain _ _ _ (by kernel_rfl)] at hL
  obtain ⟨ps, hv, _, _⟩ := hL
  have hv : DataW.LaidVars Tryz.prog W [("bypath/conf.words", Rows.laid_bypath_conf_words), ("internal/strconv.uint64pow10", Rows.laid_internal_strconv_uint64pow10), ("math/bits.deBruijn32tab", Rows.laid_math_bits_deBruijn32tab), ("math/bits.deBruijn64tab", Rows.laid_math_bits_deBruijn64tab), ("unicode/utf8.first", Rows.laid_unicode_utf8_first), ("unicode/utf8.acceptRanges", Rows.laid_unicode_utf8_acceptRanges), ("strconv.ErrSyntax", Rows.laid_strconv_ErrSyntax), ("strconv.ErrRange", Rows.laid_strconv_ErrRange), ("bypath/frame.least", Rows.laid_bypath_frame_least)] ps := hv
  have m1 : ("bypath/conf.words", (DataW.agg (wordsV.map fun s => .lit (.string s)) : DataW Unit)) ∈ [("bypath/conf.words", Rows.laid_bypath_conf_words), ("internal/strconv.uint64pow10", Rows.laid_internal_strconv_uint64pow10), ("math/bits.deBruijn32tab", Rows.laid_math_bits_deBruijn32tab), ("math/bits.deBruijn64tab", Rows.laid_math_bits_deBruijn64tab), ("unicode/utf8.first", Rows.laid_unicode_utf8_first), ("unicode/utf8.acceptRanges", Rows.laid_unicode_utf8_acceptRanges), ("strconv.ErrSyntax", Rows.laid_strconv_ErrSyntax), ("strconv.ErrRange", Rows.laid_strconv_ErrRange), ("bypath/frame.least", Rows.laid_bypath_frame_least)] := List.mem_of_getElem? (i := 0) rfl
  have m2 : ("internal/strconv.uint64pow10", (Lib.tabData .u64 pow10V : DataW Unit)) ∈ [("bypath/conf.words", Rows.laid_bypath_conf_words), ("internal/strconv.uint64pow10", Rows.laid_internal_strconv_uint64pow10), ("math/bits.deBruijn32tab", Rows.laid_math_bits_deBruijn32tab), ("math/bits.deBruijn64tab", Rows.laid_math_bits_deBruijn64tab), ("unicode/utf8.first", Rows.laid_unicode_utf8_first), ("unicode/utf8.acceptRanges", Rows.laid_unicode_utf8_acceptRanges), ("strconv.ErrSyntax", Rows.laid_strconv_ErrSyntax), ("strconv.ErrRange", Rows.laid_strconv_ErrRange), ("bypath/frame.least", Rows.laid_bypath_frame_least)] := List.mem_of_getElem? (i := 1) rfl
  have m3 : ("math/bits.deBruijn32tab", (Lib.tabData .u8 d32V : DataW Unit)) ∈ [("bypath/conf.words", Rows.laid_bypath_conf_words), ("internal/strconv.uint64pow10", Rows.laid_internal_strconv_uint64pow10), ("math/bits.deBruijn32tab", Rows.laid_math_bits_deBruijn32tab), ("math/bits.deBruijn64tab", Rows.laid_math_bits_deBruijn64tab), ("unicode/utf8.first", Rows.laid_unicode_utf8_first), ("unicode/utf8.acceptRanges", Rows.laid_unicode_utf8_acceptRanges), ("strconv.ErrSyntax", Rows.laid_strconv_ErrSyntax), ("strconv.ErrRange", Rows.laid_strconv_ErrRange), ("bypath/frame.least", Rows.laid_bypath_frame_least)] := List.mem_of_getElem? (i := 2) rfl
  have m4 : ("math/bits.deBruijn64tab", (Lib.tabData .u8 d64V : DataW Unit)) ∈ [("bypath/conf.words", Rows.laid_bypath_conf_words), ("internal/strconv.uint64pow10", Rows.laid_internal_strconv_uint64pow10), ("math/bits.deBruijn32tab", Rows.laid_math_bits_deBruijn32tab), ("math/bits.deBruijn64tab", Rows.laid_math_bits_deBruijn64tab), ("unicode/utf8.first", Rows.laid_unicode_utf8_first), ("unicode/utf8.acceptRanges", Rows.laid_unicode_utf8_acceptRanges), ("strconv.ErrSyntax", Rows.laid_strconv_ErrSyntax), ("strconv.ErrRange", Rows.laid_strconv_ErrRange), ("bypath/frame.least", Rows.laid_bypath_frame_least)] := List.mem_of_getElem? (i := 3) rfl
  have m5 : ("bypath/frame.least", (Lib.tabData .i64 leastV : DataW Unit)) ∈ [("bypath/conf.words", Rows.laid_bypath_conf_words), ("internal/strconv.uint64pow10", Rows.laid_internal_strconv_uint64pow10), ("math/bits.deBruijn32tab", Rows.laid_math_bits_deBruijn32tab), ("math/bits.deBruijn64tab", Rows.laid_math_bits_deBruijn64tab), ("unicode/utf8.first", Rows.laid_unicode_utf8_first), ("unicode/utf8.acceptRanges", Rows.laid_unicode_utf8_acceptRanges), ("strconv.ErrSyntax", Rows.laid_strconv_ErrSyntax), ("strconv.ErrRange", Rows.laid_strconv_ErrRange), ("bypath/frame.least", Rows.laid_bypath_frame_least)] := List.mem_of_getElem? (i := 8) rfl
  have c1 := str_at (g := 0) (t := 245) (e := 9) (m := 18) hv m1 (by kernel_rfl) (by kernel_rfl) Tryz.underlying245 Tryz.underlying9 (by kernel_rfl) (by kernel_rfl)
  have c2 := int_at (g := 2) (t := 655) (e := 487) (m := 20) hv m2 (by kernel_rfl) (by kernel_rfl) Tryz.underlying655 Tryz.underlying487 (by kernel_rfl) (by kernel_rfl)
  have c3 := int_at (g := 8) (t := 758) (e := 5) (m := 32) hv m3 (by kernel_rfl) (by kernel_rfl) Tryz.underlying758 Tryz.underlying5 (by kernel_rfl) (by kernel_rfl)
  have c4 := int_at (g := 9) (t := 759) (e := 5) (m := 64) hv m4 (by kernel_rfl) (by kernel_rfl) Tryz.underlying759 Tryz.underlying5 (by kernel_rfl) (by kernel_rfl)
  have c5 := int_at (g := 3) (t := 684) (e := 3) (m := 5) hv m5 (by kernel_rfl) (by kernel_rfl) Tryz.underlying684 Tryz.underlying3 (by kernel_rfl) (by kernel_rfl)
  have g1 : gOk W (0, tR 245 0 18 (strs wordsV)) := tab_at hs (by kernel_rfl) (of_decide_eq_true (by kernel_rfl)) (by decide) (by kernel_rfl) c1 rfl fun _ => rel_strs _
  have g2 : gOk W (2, tR 655 0 20 (ints .u64 pow10V)) := tab_at hs (by kernel_rfl) (of_decide_eq_true (by kernel_rfl)) (by decide) (by kernel_rfl) c2 rfl fun _ => rel_ints _ _
  have g3 : gOk W (8, tR 758 0 32 (ints .u8 d32V)) := tab_at hs (by kernel_rfl) (of_decide_eq_true (by kernel_rfl)) (by decide) (by kernel_rfl) c3 rfl fun _ => rel_ints _ _
  have g4 : gOk W (9, tR 759 0 64 (ints .u8 d64V)) := tab_at hs (by kernel_rfl) (of_decide_eq_true (by kernel_rfl)) (by decide) (by kernel_rfl) c4 rfl fun _ => rel_ints _ _
  have g5 : gOk W (3, tR 684 0 5 (ints .i64 leastV)) := tab_at hs (by kernel_rfl) (of_decide_eq_true (by kernel_rfl)) (by decide) (by kernel_rfl) c5 rfl fun _ => rel_ints _ _
  intro x hx
  unfold globs at hx
  simp only [List.mem_cons, List.not_mem_nil, or_false] at hx
  rcases hx with rfl | rfl | rfl | rfl | rfl
  · exact g1
  · exact g2
  · exact g5
  · exact g3
  · exact g4

set_option maxRecDepth 100000 in
set_option maxHeartbeats 4000000 in
theorem lifted (os : Os) (started : os.Started) (H : Type) (enc : TypeId × Value → H) :
    ReturnsInHanded {} Tryz.checked os 4 .any (fun w args => (Rows.topNamesSpec.pre enc Tryz.prog Tryz.f4 [] false w args ∧ laidMetH Tryz.prog Rows.topNamesRow.laid w) ∧ sizedMet enc Tryz.prog Tryz.f4 (OpenSpec.ofChange Rows.topNamesSpec) false w args) (Rows.topNamesSpec.post enc Tryz.prog Tryz.f4 false true false false) := by
  refine returnsInHanded_of_calls (C := Tryz.checked) own started (by kernel_rfl) (witness os H enc) ?_
  intro w tape i _ hsh _ _ hpre _
  obtain ⟨⟨⟨ds, gs, before, hw, _⟩, hx⟩, _⟩ := hpre
  have hw' := DataW.Whole.of_heap (w' := w.forCall tape i) (by rfl) hw
  have hx' : laidMetH Tryz.prog Rows.topNamesRow.laid (w.forCall tape i) := hx.of_heap (by rfl)
  have hW := hw'
  obtain ⟨p, q, hA0, hV, e0, _, _⟩ := hw'
  have hA : DataW.TrodAll enc Tryz.prog (w.forCall tape i) 0 (fun _ => true) true Tryz.f4.params.toList i.args.toList ds p := hA0
  rw [Tryz.params4] at hA
  have hargs : i.args = #[] := by
    match h1 : i.args.toList, ds, hA with
    | [], [], _ => exact Array.toList_inj.1 h1
  have hds : ds = [] := by
    rw [hargs] at hA
    match ds, hA with
    | [], _ => rfl
  obtain ⟨rfl, rfl⟩ := trodVars_none hV
  rw [hargs] at hW ⊢
  subst hds
  refine (top_walk (w.forCall tape i) (globs_ok hsh hx')).mono fun e W' ⟨he, bel⟩ => ?_
  subst he
  refine ChangeSpec.post_blind ?_
  exact law_post laidOutT (by rw [Tryz.params4]; exact of_decide_eq_true (by kernel_rfl)) rfl Tryz.underlying4 rfl rfl hW bel

theorem instT : Tryz.f4.isInstance Tryz.prog Rows.topNamesRow.origin Rows.topNamesRow.targs := of_decide_eq_true (by kernel_rfl)
theorem wrapT : Tryz.f4.isWrapper Tryz.prog Rows.topNamesRow.wrapper Rows.topNamesRow.mainSum := by
  unfold Func.isWrapper
  first | (rw [if_pos (by decide +kernel)]; kernel_rfl) | (rw [if_neg (by decide +kernel)]; exact ⟨rfl, rfl⟩)
theorem over : Rows.topNamesRow.holds Tryz.pinned (OpenSpec.ofChange Rows.topNamesSpec) :=
  OpenClaim.holds_of_wide 4 Tryz.f4 rfl rfl rfl rfl rfl rfl rfl ⟨rfl, rfl, rfl, rfl, rfl⟩ rfl rfl rfl rfl rfl namedF Tryz.func4 joined instT wrapT
    (fun os started H enc _ => lifted os started H enc)
theorem byText : Rows.topNamesRow.wfByText (OpenSpec.ofChange Rows.topNamesSpec) = true := by kernel_rfl
theorem mainT : Tryz.prog.mainIs = some (true, "11cb064b05bdb2eedd0cb161efb08788b08ef640f22c278650c8563ea9dcde09".toList) := by kernel_rfl
theorem proved : Rows.TopNamesCardSaid :=
  Claim7.holds_tied_plain_at .later [] [.data, .data, .data, .data, .pinned, .data, .sentinel, .sentinel, .data] true (true, "11cb064b05bdb2eedd0cb161efb08788b08ef640f22c278650c8563ea9dcde09") true
    over (fun _ h => by cases h) byText (fun _ h => by cases h) topNames_row_tie rfl ⟨rfl, rfl⟩ mainT rfl
    (fun f fn hf hfn => by
      obtain rfl : f = 4 := Option.some.inj (namedF.symm.trans hf) |>.symm
      obtain rfl : fn = Tryz.f4 := (Option.some.inj (Tryz.func4.symm.trans hfn)).symm
      exact ⟨jLooks, fun j t ht => by
        rw [Tryz.params4] at ht
        simp at ht⟩)
    jGoes
end Go.Proofs.YtojcehhfeleclaaGreatDoor.topNamesLaw
