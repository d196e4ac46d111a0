/-
  Regions whose order is drawn; calls. No condition but that merged calls and summaries are right.
-/
import Derived.Test.YtojcehhfeleclaaGreatDoorEv2
namespace Go.Ev
section
section
variable {P : Program} {G : Nat} {ρ ρ' : PT AV}
theorem rdAll_congr : ∀ {l : List Operand}, (∀ x ∈ l, rd G ρ x = rd G ρ' x) → rdAll G ρ l = rdAll G ρ' l
  | [], _ => rfl
  | x :: l, h => by
    show (match rd G ρ x with
    | some v => match rdAll G ρ l with
      | some r => some (v :: r)
      | none => none
    | none => none) = (match rd G ρ' x with
    | some v => match rdAll G ρ' l with
      | some r => some (v :: r)
      | none => none
    | none => none)
    rw [h x (by simp), rdAll_congr fun y hy => h y (by simp [hy])]
theorem rd1_congr {l : List Operand} (h : ∀ x ∈ l, rd G ρ x = rd G ρ' x) : rd1 G ρ l = rd1 G ρ' l := by
  unfold rd1
  split
  · exact h _ (by simp)
  · rfl
theorem rd2_congr {l : List Operand} (h : ∀ x ∈ l, rd G ρ x = rd G ρ' x) : rd2 G ρ l = rd2 G ρ' l := by
  unfold rd2
  split
  · rename_i x y
    rw [h x (by simp), h y (by simp)]
  · rfl
theorem bnd_congr {d : Nat} {x : Option Operand} (h : ∀ y, x = some y → rd G ρ y = rd G ρ' y) : bnd G ρ d x = bnd G ρ' d x := by
  cases x with
  | none => rfl
  | some y => simp only [bnd, h y rfl]
/-- the same at two frames -/
def InsSame (ρ ρ' : PT AV) : Ins → Prop
  | .free f => ∀ h, f ρ h = f ρ' h
  | .read f => ∀ h, f ρ h = f ρ' h
  | .mk f => f ρ = f ρ'
  | .eff f => ∀ h, f ρ h = f ρ' h
  | .call f => ∀ h, f ρ h = f ρ' h
  | .alt f => ∀ h, f ρ h = f ρ' h
  | .no => True
theorem comp_congr (o : Op) (hx : ∀ x ∈ o.operands, rd G ρ x = rd G ρ' x) : InsSame ρ ρ' (comp P G o) := by
  have args : ∀ {c : Call}, o = .call c → ∀ x ∈ c.args.toList, rd G ρ x = rd G ρ' x := fun {c} ho x hxm => hx x (by
    rw [ho]
    simp only [Op.operands, Call.operands]
    exact Array.mem_append.2 (.inr (by simpa using hxm)))
  cases o
  case move x => exact fun h => hx x (by simp [Op.operands])
  case assign x => exact fun h => hx x (by simp [Op.operands])
  case pick c x y => exact fun h => by simp only [opPick, hx c (by simp [Op.operands]), hx x (by simp [Op.operands]), hx y (by simp [Op.operands])]
  case load t x => exact fun h => by simp only [opLoad, hx x (by simp [Op.operands])]
  case nilCheck x => exact fun h => by simp only [opNil, hx x (by simp [Op.operands])]
  case binOp op t x y t' => exact fun h => by simp only [opBin, hx x (by simp [Op.operands]), hx y (by simp [Op.operands])]
  case unOp op t x => exact fun h => by simp only [opUn, hx x (by simp [Op.operands])]
  case convert src dst x =>
    simp only [comp]
    split
    · show mkBytes P G src dst x ρ = mkBytes P G src dst x ρ'
      simp only [mkBytes, hx x (by simp [Op.operands])]
    · exact fun h => by simp only [opConv, hx x (by simp [Op.operands])]
  case fieldAddr s x f => exact fun h => by simp only [opFieldAddr, hx x (by simp [Op.operands])]
  case field s x f => exact fun h => by simp only [opField, hx x (by simp [Op.operands])]
  case indexAddr t x ix => exact fun h => by simp only [opIndexAddr, hx x (by simp [Op.operands]), hx ix (by simp [Op.operands])]
  case index t x ix => exact fun h => by simp only [opIndex, hx x (by simp [Op.operands]), hx ix (by simp [Op.operands])]
  case extract x i => exact fun h => by simp only [opExtract, hx x (by simp [Op.operands])]
  case makeFunc f a c =>
    exact fun h => by
      have e1 := rdAll_congr (G := G) (ρ := ρ) (ρ' := ρ') (l := a.toList) (fun x hxm => hx x (by simp only [Op.operands]; exact Array.mem_append.2 (.inl (by simpa using hxm))))
      have e2 := rdAll_congr (G := G) (ρ := ρ) (ρ' := ρ') (l := c.toList) (fun x hxm => hx x (by simp only [Op.operands]; exact Array.mem_append.2 (.inr (by simpa using hxm))))
      show opMakeFunc G f a c ρ = opMakeFunc G f a c ρ'
      cases f <;> simp only [opMakeFunc, e1, e2]
  case build t ps =>
    exact fun h => by
      simp only [opBuild, rdAll_congr (l := ps.toList.map (·.2)) (fun x hxm => hx x (by simpa [Op.operands] using hxm))]
  case slice t x lo hi mx =>
    exact fun h => by
      have e1 : ∀ d, bnd G ρ d lo = bnd G ρ' d lo := fun d => bnd_congr fun y hy => hx y (by subst hy; simp [Op.operands])
      have e2 : ∀ d, bnd G ρ d hi = bnd G ρ' d hi := fun d => bnd_congr fun y hy => hx y (by subst hy; simp [Op.operands])
      have e3 : ∀ d, bnd G ρ d mx = bnd G ρ' d mx := fun d => bnd_congr fun y hy => hx y (by subst hy; simp [Op.operands])
      simp only [opSlice, e1, e2, e3, hx x (by simp [Op.operands])]
  case lookup t x k ok => exact fun h => by simp only [opLookup, hx x (by simp [Op.operands]), hx k (by simp [Op.operands])]
  case entry it => exact fun h => by simp only [opEntry, hx it (by simp [Op.operands])]
  case alloc e => rfl
  case box e x =>
    show mkBox G e x ρ = mkBox G e x ρ'
    simp only [mkBox, hx x (by simp [Op.operands])]
  case buildSlice t len ps =>
    have e1 := rdAll_congr (G := G) (ρ := ρ) (ρ' := ρ') (l := ps.toList.map (·.2)) (fun x hxm => hx x (by simpa [Op.operands] using hxm))
    cases len with
    | zero =>
      simp only [comp]
      split
      · show mkBuildSlice P G t 0 ps ρ = mkBuildSlice P G t 0 ps ρ'
        simp only [mkBuildSlice, e1]
      · exact trivial
    | succ n =>
      show mkBuildSlice P G t (n + 1) ps ρ = mkBuildSlice P G t (n + 1) ps ρ'
      simp only [mkBuildSlice, e1]
  case makeSlice t l c =>
    show mkMake P G t l c ρ = mkMake P G t l c ρ'
    simp only [mkMake, hx l (by simp [Op.operands]), hx c (by simp [Op.operands])]
  case makeMap t r =>
    show mkMap P G t r ρ = mkMap P G t r ρ'
    cases r with
    | none => rfl
    | some x => simp only [mkMap, hx x (by simp [Op.operands])]
  case store t a x => exact fun h => by simp only [effStore, hx a (by simp [Op.operands]), hx x (by simp [Op.operands])]
  case mapUpdate t m k x => exact fun h => by simp only [effUpdate, hx m (by simp [Op.operands]), hx k (by simp [Op.operands]), hx x (by simp [Op.operands])]
  case range t x => exact fun h => by simp only [effRange, hx x (by simp [Op.operands])]
  case next it s => exact fun h => by simp only [effNext, hx it (by simp [Op.operands])]
  case call c =>
    have ha := args rfl
    simp only [comp]
    split
    · rename_i fv hc
      exact fun h => by
        have hf := hx fv (by simp [Op.operands, Call.operands, hc])
        simp only [effCall, hc, hf, rdAll_congr ha]
    · rename_i b hc
      cases b
      case len => exact fun h => by simp only [opLen, rd1_congr ha]
      case cap => exact fun h => by simp only [opCap, rd1_congr ha]
      case min => exact fun h => by simp only [opMin, rdAll_congr ha]
      case max => exact fun h => by simp only [opMin, rdAll_congr ha]
      case unsafeSliceData => exact fun h => by simp only [opSliceData, rd1_congr ha]
      case append => exact fun h => by simp only [effAppend, rd2_congr ha]
      case copy => exact fun h => by simp only [effCopy, rd2_congr ha]
      case clear => exact fun h => by simp only [effClear, rd1_congr ha]
      case delete => exact fun h => by simp only [effDelete, rd2_congr ha]
      case unsafeString => exact fun h => by simp only [effString, rd2_congr ha]
      all_goals exact trivial
    · exact trivial
  all_goals exact trivial
end
end
section
structure St where
  ρ : PT AV
  hs : Hp
  ps : List Put
  rs : List Rd
  E : Nat
inductive Kin | skip | free | read | mk (x : Blk) | eff
def PutD (n : Nat) (d : Option Tmp) (v : AV) (ρ ρ' : PT AV) : Prop := (d = none ∧ ρ' = ρ) ∨ ∃ t, d = some t ∧ t < n ∧ ρ' = ρ.set (some v) (Ps.of t)
theorem setK_all {n : Nat} {d : Option Tmp} {v : AV} {ρ : PT AV} {K} {k : PT AV → Res} (hh : (setK .no n d v ρ k).all K) : ∃ ρ', PutD n d v ρ ρ' ∧ (k ρ').all K := by
  cases d with
  | none => exact ⟨ρ, .inl ⟨rfl, rfl⟩, hh⟩
  | some d =>
    simp only [setK] at hh
    split at hh
    · rename_i hd
      rw [PT.frc_eq] at hh
      exact ⟨_, .inr ⟨d, rfl, blt_lt hd, rfl⟩, hh⟩
    · exact hh.elim
/-- an effect -/
def Ef (cf : CallF) (ins : Ins) (ρ : PT AV) (h : Hp) (v : AV) (h' : Hp) : Prop := match ins with
  | .eff f => f ρ h = some (v, h')
  | .call f => f ρ h = some (.val v h') ∨ ∃ g as, f ρ h = some (.call g as) ∧ cf g as h = some (v, h')
  | _ => False
/-- what one operation has done -/
def StepR (n : Nat) (cf : CallF) (base i : Nat) (g : Gd) (d : Option Tmp) (ins : Ins) (A q : Nat) (s : St) (t : Kin) (v : AV) (s' : St) : Prop :=
  PutD n d v s.ρ s'.ρ ∧ match t with
    | .skip => wantA g s.ρ = some false ∧ v = skipV ∧ s'.hs = s.hs ∧ s'.ps = s.ps ∧ s'.rs = s.rs ∧ s'.E = s.E
    | .free => wantA g s.ρ = some true ∧ (∃ f, ins = .free f ∧ f s.ρ s.hs = some v) ∧ s'.hs = s.hs ∧ s'.ps = s.ps ∧ s'.rs = s.rs ∧ s'.E = s.E
    | .read => wantA g s.ρ = some true ∧ Nat.land s.E A = s.E ∧ (∃ f, ins = .read f ∧ f s.ρ s.hs = some v ∧ s'.rs = ⟨i, f s.ρ, v⟩ :: s.rs) ∧ s'.hs = s.hs ∧ s'.ps = s.ps ∧ s'.E = s.E
    | .mk x => wantA g s.ρ = some true ∧ (∃ f g', ins = .mk f ∧ f s.ρ = some (x, g') ∧ v = g' (Nat.add base q)) ∧ s'.hs = s.hs ∧ s'.ps = ⟨Nat.add base q, i, x⟩ :: s.ps ∧ s'.rs = s.rs ∧ s'.E = s.E
    | .eff => wantA g s.ρ = some true ∧ Nat.land s.E A = s.E ∧ within A s.ps = true ∧ Ef cf ins s.ρ (putAll s.ps s.hs) v s'.hs ∧ checkRds s'.hs (stillOpen A s.rs) = true ∧ s'.ps = [] ∧ s'.rs = stillOpen A s.rs ∧
        s'.E = Nat.lor s.E (Nat.shiftLeft 1 i)
theorem beq_land {E A : Nat} (h : Nat.beq (Nat.land E A) E = true) : Nat.land E A = E := by simpa using h
theorem goDraw_step {n : Nat} {cf : CallF} {base i : Nat} {g : Gd} {d : Option Tmp} {ins : Ins} {A q : Nat} {l : List DI} {K} {s : St}
    (hh : (goDraw n cf base (.mk i (.mk g d ins) A q :: l) s.ρ s.hs s.ps s.rs s.E).all K) :
    ∃ t v s', StepR n cf base i g d ins A q s t v s' ∧ (goDraw n cf base l s'.ρ s'.hs s'.ps s'.rs s'.E).all K := by
  obtain ⟨ρ, hs, ps, rs, E⟩ := s
  have ih : ∀ ρ hs ps rs E, (goDraw n cf base l ρ hs ps rs E).all K → ∃ s' : St, s' = ⟨ρ, hs, ps, rs, E⟩ ∧ (goDraw n cf base l s'.ρ s'.hs s'.ps s'.rs s'.E).all K := fun ρ hs ps rs E h => ⟨_, rfl, h⟩
  revert hh
  show Res.all K (match wantA g ρ with
        | none => .no
        | some false => setK .no n d skipV ρ fun ρ => goDraw n cf base l ρ hs ps rs E
        | some true => match ins with
          | .free f => match f ρ hs with
            | some v => setK .no n d v ρ fun ρ => goDraw n cf base l ρ hs ps rs E
            | none => .no
          | .read f => match Nat.beq (Nat.land E A) E with
            | true => match f ρ hs with
              | some v => setK .no n d v ρ fun ρ' => goDraw n cf base l ρ' hs ps (⟨i, f ρ, v⟩ :: rs) E
              | none => .no
            | false => .no
          | .mk f => match f ρ with
            | some (x, g) => frc (Nat.add base q) fun b => setK .no n d (g b) ρ fun ρ => goDraw n cf base l ρ hs (⟨b, i, x⟩ :: ps) rs E
            | none => .no
          | .eff f => match Nat.beq (Nat.land E A) E && within A ps with
            | true => Hp.frcH (putAll ps hs) fun hb => match f ρ hb with
              | some (v, h') => Hp.frcH h' fun h' => match checkRds h' (stillOpen A rs) with
                | true => frc (Nat.lor E (Nat.shiftLeft 1 i)) fun E' => setK .no n d v ρ fun ρ => goDraw n cf base l ρ h' [] (stillOpen A rs) E'
                | false => .no
              | none => .no
            | false => .no
          | .call f => match Nat.beq (Nat.land E A) E && within A ps with
            | true => Hp.frcH (putAll ps hs) fun hb => match f ρ hb with
              | some x => match x with
                | .val v h' => Hp.frcH h' fun h' => match checkRds h' (stillOpen A rs) with
                  | true => frc (Nat.lor E (Nat.shiftLeft 1 i)) fun E' => setK .no n d v ρ fun ρ => goDraw n cf base l ρ h' [] (stillOpen A rs) E'
                  | false => .no
                | .call g as => match cf g as hb with
                  | some (v, h') => Hp.frcH h' fun h' => match checkRds h' (stillOpen A rs) with
                    | true => frc (Nat.lor E (Nat.shiftLeft 1 i)) fun E' => setK .no n d v ρ fun ρ => goDraw n cf base l ρ h' [] (stillOpen A rs) E'
                    | false => .no
                  | none => .no
              | none => .no
            | false => .no
          | _ => .no) → _
  intro hh
  split at hh
  · exact hh.elim
  · rename_i hw
    obtain ⟨ρ', h1, h2⟩ := setK_all hh
    exact ⟨.skip, skipV, ⟨ρ', hs, ps, rs, E⟩, ⟨h1, hw, rfl, rfl, rfl, rfl, rfl⟩, h2⟩
  · rename_i hw
    split at hh
    · rename_i f
      split at hh
      · rename_i v hv
        obtain ⟨ρ', h1, h2⟩ := setK_all hh
        exact ⟨.free, v, ⟨ρ', hs, ps, rs, E⟩, ⟨h1, hw, ⟨f, rfl, hv⟩, rfl, rfl, rfl, rfl⟩, h2⟩
      · exact hh.elim
    · rename_i f
      split at hh
      · rename_i hE
        split at hh
        · rename_i v hv
          obtain ⟨ρ', h1, h2⟩ := setK_all hh
          exact ⟨.read, v, ⟨ρ', hs, ps, _, E⟩, ⟨h1, hw, beq_land hE, ⟨f, rfl, hv, rfl⟩, rfl, rfl, rfl⟩, h2⟩
        · exact hh.elim
      · exact hh.elim
    · rename_i f
      split at hh
      · rename_i x g' hx
        rw [frc_eq] at hh
        obtain ⟨ρ', h1, h2⟩ := setK_all hh
        exact ⟨.mk x, _, ⟨ρ', hs, _, rs, E⟩, ⟨h1, hw, ⟨f, g', rfl, hx, rfl⟩, rfl, rfl, rfl, rfl⟩, h2⟩
      · exact hh.elim
    · rename_i f
      split at hh
      · rename_i hE
        rw [Bool.and_eq_true] at hE
        rw [Hp.frcH_eq] at hh
        split at hh
        · rename_i v h' hv
          rw [Hp.frcH_eq] at hh
          split at hh
          · rename_i hc
            rw [frc_eq] at hh
            obtain ⟨ρ', h1, h2⟩ := setK_all hh
            exact ⟨.eff, v, ⟨ρ', h', [], _, _⟩, ⟨h1, hw, beq_land hE.1, hE.2, hv, hc, rfl, rfl, rfl⟩, h2⟩
          · exact hh.elim
        · exact hh.elim
      · exact hh.elim
    · rename_i f
      split at hh
      · rename_i hE
        rw [Bool.and_eq_true] at hE
        rw [Hp.frcH_eq] at hh
        split at hh
        · rename_i x hx
          split at hh
          · rename_i v h'
            rw [Hp.frcH_eq] at hh
            split at hh
            · rename_i hc
              rw [frc_eq] at hh
              obtain ⟨ρ', h1, h2⟩ := setK_all hh
              exact ⟨.eff, v, ⟨ρ', h', [], _, _⟩, ⟨h1, hw, beq_land hE.1, hE.2, .inl hx, hc, rfl, rfl, rfl⟩, h2⟩
            · exact hh.elim
          · rename_i g' as
            split at hh
            · rename_i v h' hcf
              rw [Hp.frcH_eq] at hh
              split at hh
              · rename_i hc
                rw [frc_eq] at hh
                obtain ⟨ρ', h1, h2⟩ := setK_all hh
                exact ⟨.eff, v, ⟨ρ', h', [], _, _⟩, ⟨h1, hw, beq_land hE.1, hE.2, .inr ⟨g', as, hx, hcf⟩, hc, rfl, rfl, rfl⟩, h2⟩
              · exact hh.elim
            · exact hh.elim
        · exact hh.elim
      · exact hh.elim
    · exact hh.elim
/-! ### the whole plan -/
section
variable (P : Program) (G : Nat) (ops : Array Oper)
/-- an item of a plan -/
def ItemOk (it : DI) : Prop := match it with
  | .mk i c A _ => ∃ o, ops[i]? = some o ∧ c = compO P G ops o ∧ (ancs ops.toList)[i]? = some A
structure Rows (n : Nat) (cf : CallF) (base : Nat) (L : List DI) (S : Nat → St) (I A q : Nat → Nat) (O : Nat → Oper) (T : Nat → Kin) (V : Nat → AV) : Prop where
  it : ∀ k, k < L.length → L[k]? = some (.mk (I k) (compO P G ops (O k)) (A k) (q k))
  op : ∀ k, k < L.length → ops[I k]? = some (O k)
  an : ∀ k, k < L.length → (ancs ops.toList)[I k]? = some (A k)
  step : ∀ k, k < L.length → StepR n cf base (I k) (gdOf ops (O k)) (O k).dst (comp P G (O k).op) (A k) (q k) (S k) (T k) (V k) (S (k + 1))
def sh {α : Type} (a : α) (f : Nat → α) : Nat → α
  | 0 => a
  | k + 1 => f k
theorem goDraw_rows {n : Nat} {cf : CallF} {base : Nat} {K} : ∀ {L : List DI} {s : St}, (∀ it ∈ L, ItemOk P G ops it) → (goDraw n cf base L s.ρ s.hs s.ps s.rs s.E).all K →
    ∃ S I A q O T V, Rows P G ops n cf base L S I A q O T V ∧ S 0 = s ∧ K .nrm (S L.length).ρ (putAll (S L.length).ps (S L.length).hs)
  | [], s, _, hh => by
    have hh : (Hp.frcH (putAll s.ps s.hs) fun h => Res.one .nrm s.ρ h).all K := hh
    rw [Hp.frcH_eq] at hh
    exact ⟨fun _ => s, fun _ => 0, fun _ => 0, fun _ => 0, fun _ => default, fun _ => .skip, fun _ => skipV,
      ⟨fun _ h => absurd h (by simp), fun _ h => absurd h (by simp), fun _ h => absurd h (by simp), fun _ h => absurd h (by simp)⟩, rfl, hh⟩
  | .mk i c a qq :: L, s, hi, hh => by
    obtain ⟨o, h1, rfl, h2⟩ := hi _ (List.mem_cons_self ..)
    obtain ⟨t, v, s', h3, h4⟩ := goDraw_step hh
    obtain ⟨S, I, A, q, O, T, V, r, h5, h6⟩ := goDraw_rows (L := L) (fun it h => hi it (List.mem_cons_of_mem _ h)) h4
    refine ⟨sh s S, sh i I, sh a A, sh qq q, sh o O, sh t T, sh v V, ⟨?_, ?_, ?_, ?_⟩, rfl, h6⟩
    · intro k hk; cases k with
      | zero => rfl
      | succ k => simpa [sh] using r.it k (by simpa using hk)
    · intro k hk; cases k with
      | zero => exact h1
      | succ k => exact r.op k (by simpa using hk)
    · intro k hk; cases k with
      | zero => exact h2
      | succ k => exact r.an k (by simpa using hk)
    · intro k hk; cases k with
      | zero => show StepR n cf base i (gdOf ops o) o.dst (comp P G o.op) a qq s t v (S 0); rw [h5]; exact h3
      | succ k => exact r.step k (by simpa using hk)
end
/-! ### the same value is the same -/
theorem sameLeaf_eq {a b : AV} (h : sameLeaf a b = true) : a = b := by
  cases a <;> cases b <;> simp only [sameLeaf, Bool.false_eq_true, Bool.and_eq_true] at h
  case int.int k m k' n => rw [kindB_eq h.1, (by simpa [eqI_eq] using h.2 : m = n)]
  case bool.bool x y => cases x <;> cases y <;> first | rfl | simp at h
  case ptr.ptr => rw [Nat.eq_of_beq_eq_true h.1, Nat.eq_of_beq_eq_true h.2]
  case sl.sl x i l c e s y j l' c' e' s' =>
    obtain ⟨h1, h2, h3, h4, h5, h6⟩ := h
    rw [Nat.eq_of_beq_eq_true h1, Nat.eq_of_beq_eq_true h2, Nat.eq_of_beq_eq_true h3, Nat.eq_of_beq_eq_true h4, Nat.eq_of_beq_eq_true h6]
    cases e <;> cases e' <;> first | rfl | simp at h5
  case mp.mp => rw [Nat.eq_of_beq_eq_true h]
  all_goals rfl
theorem all2_eq {p : AV → AV → Bool} (hp : ∀ a b, p a b = true → a = b) : ∀ {l l' : List AV}, sameN.all2 p l l' = true → l = l'
  | [], [], _ => rfl
  | [], _ :: _, h => by simp [sameN.all2] at h
  | _ :: _, [], h => by simp [sameN.all2] at h
  | a :: l, b :: l', h => by
    simp only [sameN.all2] at h
    split at h
    · rename_i h1; rw [hp _ _ h1, all2_eq hp h]
    · cases h
theorem sameN_eq : ∀ (n : Nat) (a b : AV), sameN n a b = true → a = b
  | 0, _, _, h => by have h : false = true := h; cases h
  | n + 1, a, b, h => by
    have ih := sameN_eq n
    have h : (match (generalizing := false) a with
      | .agg l => match (generalizing := false) b with | .agg l' => sameN.all2 (sameN n) l l' | _ => false
      | .tup l => match (generalizing := false) b with | .tup l' => sameN.all2 (sameN n) l l' | _ => false
      | .fn f x c => match (generalizing := false) b with | .fn f' x' c' => Nat.beq f f' && (sameN.all2 (sameN n) x x' && sameN.all2 (sameN n) c c') | _ => false
      | .str s => match (generalizing := false) b with | .str s' => eqS s s' | _ => false
      | a => sameLeaf a b) = true := h
    split at h
    · split at h
      · rw [all2_eq ih h]
      · cases h
    · split at h
      · rw [all2_eq ih h]
      · cases h
    · split at h
      · simp only [Bool.and_eq_true] at h
        rw [Nat.eq_of_beq_eq_true h.1, all2_eq ih h.2.1, all2_eq ih h.2.2]
      · cases h
    · split at h
      · rename_i s1 _ s2 _; have e : s1 = s2 := by simpa [eqS_eq] using h
        rw [e]
      · cases h
    · exact sameLeaf_eq h
end
section
/-! ### bits -/
theorem bit_or (x y j : Nat) : Nat.testBit (Nat.lor x y) j = (Nat.testBit x j || Nat.testBit y j) := Nat.testBit_or x y j
theorem bit_shl (i j : Nat) : Nat.testBit (Nat.shiftLeft 1 i) j = decide (i = j) := by
  show Nat.testBit (1 <<< i) j = _
  rw [Nat.one_shiftLeft, Nat.testBit_two_pow]
theorem bit_land {A D : Nat} (h : Nat.beq (Nat.land A D) A = true) {j : Nat} (hj : Nat.testBit A j = true) : Nat.testBit D j = true := by
  have e : A &&& D = A := by simpa using h
  have := Nat.testBit_and A D j
  rw [e, hj] at this
  simpa using this.symm
theorem land_bit {E A : Nat} (h : Nat.land E A = E) {j : Nat} (hj : Nat.testBit E j = true) : Nat.testBit A j = true := bit_land (by rw [h]; simp) hj
theorem foldl_bit {g : Nat → Nat} : ∀ {l : List Nat} {m b : Nat}, Nat.testBit (l.foldl (fun m j => Nat.lor m (Nat.lor (Nat.shiftLeft 1 j) (g j))) m) b = true ↔ Nat.testBit m b = true ∨ ∃ j ∈ l, j = b ∨ Nat.testBit (g j) b = true
  | [], m, b => by simp
  | x :: l, m, b => by
    rw [List.foldl_cons, foldl_bit, bit_or, bit_or, bit_shl]
    simp only [Bool.or_eq_true, decide_eq_true_eq, List.mem_cons, exists_eq_or_imp, or_assoc]
/-! ### those ahead -/
def ancF (o : Oper) (l : List Nat) : Nat := (edgesOf o).foldl (fun m j => Nat.lor m (Nat.lor (Nat.shiftLeft 1 j) (l.getD j 0))) 0
theorem ancAux_pre : ∀ (os : List Oper) (acc : List Nat), ∃ r, ancAux os acc = acc ++ r
  | [], acc => ⟨[], by simp [ancAux]⟩
  | o :: os, acc => by
    obtain ⟨r, hr⟩ := ancAux_pre os (acc ++ [ancF o acc])
    exact ⟨_, by show ancAux os (acc ++ [ancF o acc]) = _; rw [hr, List.append_assoc]⟩
theorem ancAux_at : ∀ {os : List Oper} {acc : List Nat} {k : Nat} {o : Oper}, os[k]? = some o → (ancAux os acc)[acc.length + k]? = some (ancF o ((ancAux os acc).take (acc.length + k)))
  | [], _, _, _, h => by simp at h
  | x :: os, acc, 0, o, h => by
    simp at h
    subst h
    show (ancAux os (acc ++ [ancF x acc]))[acc.length + 0]? = some (ancF x ((ancAux os (acc ++ [ancF x acc])).take (acc.length + 0)))
    obtain ⟨r, hr⟩ := ancAux_pre os (acc ++ [ancF x acc])
    rw [hr]
    simp
  | x :: os, acc, k + 1, o, h => by
    have := ancAux_at (os := os) (acc := acc ++ [ancF x acc]) (k := k) (o := o) (by simpa using h)
    show (ancAux os (acc ++ [ancF x acc]))[acc.length + (k + 1)]? = some (ancF o ((ancAux os (acc ++ [ancF x acc])).take (acc.length + (k + 1))))
    rw [List.length_append, List.length_singleton, show acc.length + 1 + k = acc.length + (k + 1) by omega] at this
    exact this
theorem mem_edgesOf {o : Oper} {j : Nat} : j ∈ edgesOf o ↔ ∃ e ∈ o.after, Region.binds .any e = true ∧ e.on = j := by
  unfold edgesOf
  rw [List.mem_filterMap]
  constructor
  · rintro ⟨e, h1, h2⟩
    split at h2
    · rename_i h3; injection h2 with h2; exact ⟨e, by simpa using h1, h3, h2⟩
    · cases h2
  · rintro ⟨e, h1, h2, h3⟩; exact ⟨e, by simpa using h1, by rw [if_pos h2, h3]⟩
theorem ancs_bit {os : List Oper} {i A : Nat} {o : Oper} (ho : os[i]? = some o) (hA : (ancs os)[i]? = some A) {b : Nat} :
    Nat.testBit A b = true ↔ ∃ e ∈ o.after, Region.binds .any e = true ∧ (e.on = b ∨ (e.on < i ∧ ∃ B, (ancs os)[e.on]? = some B ∧ Nat.testBit B b = true)) := by
  have := ancAux_at (acc := []) ho
  simp only [List.length_nil, Nat.zero_add] at this
  unfold ancs at hA ⊢
  rw [hA] at this
  injection this with e
  rw [e]
  unfold ancF
  rw [foldl_bit]
  simp only [Nat.zero_testBit, Bool.false_eq_true, false_or]
  constructor
  · rintro ⟨j, hj, hb⟩
    obtain ⟨e, h1, h2, h3⟩ := mem_edgesOf.1 hj
    refine ⟨e, h1, h2, ?_⟩
    rcases hb with hb | hb
    · exact .inl (h3.trans hb)
    · right
      rw [← h3, List.getD_eq_getElem?_getD, List.getElem?_take] at hb
      by_cases hlt : e.on < i
      · rw [if_pos hlt] at hb
        refine ⟨hlt, ?_⟩
        cases hB : (ancAux os [])[e.on]? with
        | none => rw [hB] at hb; simp at hb
        | some B => rw [hB] at hb; exact ⟨B, rfl, hb⟩
      · rw [if_neg hlt] at hb; simp at hb
  · rintro ⟨e, h1, h2, hb⟩
    refine ⟨e.on, mem_edgesOf.2 ⟨e, h1, h2, rfl⟩, ?_⟩
    rcases hb with hb | ⟨hlt, B, hB, hb⟩
    · exact .inl hb
    · right
      rw [List.getD_eq_getElem?_getD, List.getElem?_take, if_pos hlt, hB]
      exact hb
/-! ### the items of a plan -/
section
variable {P : Program} {G : Nat} {ops : Array Oper}
theorem items_ok : ∀ {os : List Oper} {As : List Nat} {i : Nat}, (∀ j, os[j]? = ops[i + j]?) → (∀ j a, As[j]? = some a → (ancs ops.toList)[i + j]? = some a) → ∀ it ∈ itemsA P G ops os As i, ItemOk P G ops it
  | [], _, _, _, _, it, h => by simp [itemsA] at h
  | _ :: _, [], _, _, _, it, h => by simp [itemsA] at h
  | o :: os, A :: As, i, h1, h2, it, h => by
    simp only [itemsA, List.mem_cons] at h
    rcases h with rfl | h
    · exact ⟨o, by simpa using (h1 0).symm, rfl, by simpa using h2 0 A rfl⟩
    · exact items_ok (i := i + 1) (fun j => by rw [show i + 1 + j = i + (j + 1) by omega, ← h1 (j + 1)]; rfl) (fun j a ha => by rw [show i + 1 + j = i + (j + 1) by omega]; exact h2 (j + 1) a ha) it h
theorem find_mem {α : Type} {p : α → Bool} {l : List α} {x : α} (h : l.find? p = some x) : x ∈ l := List.mem_of_find?_eq_some h
theorem pickD_mem {l : List DI} {done : Nat} {d : DI} (h : pickD l done = some d) : d ∈ l := by
  unfold pickD at h
  split at h
  · rename_i d' hd
    injection h with h
    subst h
    exact find_mem hd
  · split at h
    · rename_i i c A q hd
      split at h
      · injection h with h
        subst h
        exact find_mem hd
      · exact find_mem h
    · exact find_mem h
theorem planGo_ok : ∀ {f : Nat} {l : List DI} {done q : Nat}, (∀ it ∈ l, ItemOk P G ops it) → ∀ it ∈ planGo f l done q, ItemOk P G ops it
  | 0, _, _, _, _, it, h => by simp [planGo] at h
  | f + 1, l, done, q, hl, it, h => by
    unfold planGo at h
    split at h
    · rename_i i c A q' hp
      rcases List.mem_cons.1 h with rfl | h
      · have := hl _ (pickD_mem hp)
        exact this
      · exact planGo_ok hl it h
    · simp at h
theorem planA_ok : ∀ it ∈ planA P G ops, ItemOk P G ops it :=
  planGo_ok (items_ok (fun j => by simp) (fun j a ha => by simpa using ha))
def DI.idx : DI → Nat
  | .mk i _ _ _ => i
/-- what holds of the item at each place -/
def AtOk (L : List DI) (done q0 k i : Nat) (c : CO) (A q : Nat) : Prop :=
  Nat.testBit done i = false ∧ (∀ j, Nat.testBit A j = true → Nat.testBit done j = true ∨ ∃ (l : Nat) (it : DI), l < k ∧ L[l]? = some it ∧ it.idx = j) ∧
    (∀ (l : Nat) (it : DI), l < k → L[l]? = some it → it.idx ≠ i) ∧
    (c.isMk = true → q0 ≤ q ∧ q < q0 + DI.count L ∧ ∀ (l i' : Nat) (c' : CO) (A' q' : Nat), l < k → L[l]? = some (.mk i' c' A' q') → c'.isMk = true → q' < q)
def PlOk (L : List DI) (full done q0 : Nat) : Prop :=
  (∀ (k i : Nat) (c : CO) (A q : Nat), L[k]? = some (.mk i c A q) → AtOk L done q0 k i c A q) ∧
    ∀ j, Nat.testBit full j = true → Nat.testBit done j = true ∨ ∃ (l : Nat) (it : DI), L[l]? = some it ∧ it.idx = j
theorem plOk_cons {full i : Nat} {c : CO} {A q : Nat} {L : List DI} {done q0 q1 : Nat} (h1 : Nat.testBit done i = false) (h2 : Nat.beq (Nat.land A done) A = true)
    (h : PlOk L full (Nat.lor done (Nat.shiftLeft 1 i)) q1) (hq01 : q0 ≤ q1) (hqm : c.isMk = true → q = q0 ∧ q1 = q0 + 1) (hcount : q1 + DI.count L = q0 + DI.count (.mk i c A q :: L)) : PlOk (.mk i c A q :: L) full done q0 := by
  obtain ⟨g1, g2⟩ := h
  refine ⟨?_, ?_⟩
  · intro k i' c' A' q' hk
    cases k with
    | zero =>
      simp at hk
      obtain ⟨rfl, rfl, rfl, rfl⟩ := hk
      refine ⟨h1, fun j hj => .inl (bit_land h2 hj), fun l it hl => absurd hl (by omega), fun hm => ⟨by have := (hqm hm).1; omega, ?_, fun l _ _ _ _ hl => absurd hl (by omega)⟩⟩
      obtain ⟨e1, e2⟩ := hqm hm
      omega
    | succ k =>
      obtain ⟨f1, f2, f3, f4⟩ := g1 k i' c' A' q' (by simpa using hk)
      rw [bit_or, bit_shl, Bool.or_eq_false_iff] at f1
      have hne : i ≠ i' := by simpa using f1.2
      refine ⟨f1.1, fun j hj => ?_, fun l it hl hit => ?_, fun hm => ?_⟩
      · rcases f2 j hj with hb | ⟨l, it, hl, hit, he⟩
        · rw [bit_or, bit_shl, Bool.or_eq_true] at hb
          rcases hb with hb | hb
          · exact .inl hb
          · exact .inr ⟨0, _, by omega, rfl, by simpa [DI.idx] using hb⟩
        · exact .inr ⟨l + 1, it, by omega, by simpa using hit, he⟩
      · cases l with
        | zero => simp at hit; subst hit; exact hne
        | succ l => exact f3 l it (by omega) (by simpa using hit)
      · obtain ⟨m1, m2, m3⟩ := f4 hm
        refine ⟨by omega, by omega, fun l i'' c'' A'' q'' hl hit hm' => ?_⟩
        cases l with
        | zero =>
          simp at hit
          obtain ⟨rfl, rfl, rfl, rfl⟩ := hit
          obtain ⟨e1, e2⟩ := hqm hm'
          omega
        | succ l => exact m3 l i'' c'' A'' q'' (by omega) (by simpa using hit) hm'
  · intro j hj
    rcases g2 j hj with hb | ⟨l, it, hit, he⟩
    · rw [bit_or, bit_shl, Bool.or_eq_true] at hb
      rcases hb with hb | hb
      · exact .inl hb
      · exact .inr ⟨0, _, rfl, by simpa [DI.idx] using hb⟩
    · exact .inr ⟨l + 1, it, by simpa using hit, he⟩
theorem orderOk_spec {full : Nat} : ∀ {L : List DI} {done q0 : Nat}, orderOk full L done q0 = true → PlOk L full done q0
  | [], done, q0, h => by
    have h : Nat.beq done full = true := h
    have e := Nat.eq_of_beq_eq_true h
    exact ⟨fun k i c A q hk => by simp at hk, fun j hj => .inl (e ▸ hj)⟩
  | .mk i c A q :: L, done, q0, h => by
    simp only [orderOk, Bool.and_eq_true, Bool.not_eq_true'] at h
    obtain ⟨h1, h2, h3⟩ := h
    cases hm : c.isMk with
    | true =>
      rw [hm] at h3
      simp only [Bool.and_eq_true] at h3
      exact plOk_cons (q1 := q0 + 1) h1 h2 (orderOk_spec h3.2) (by omega) (fun _ => ⟨Nat.eq_of_beq_eq_true h3.1, rfl⟩) (by simp only [DI.count, hm]; omega)
    | false =>
      rw [hm] at h3
      exact plOk_cons (q1 := q0) h1 h2 (orderOk_spec h3) (by omega) (fun hc => by rw [hm] at hc; cases hc) (by simp only [DI.count, hm])
theorem apart_spec {os : List Oper} {As : List Nat} (h : apartAll ops os As = true) {i j : Nat} {x y : Oper} {A B : Nat} (hx : os[i]? = some x) (hy : os[j]? = some y) (hA : As[i]? = some A) (hB : As[j]? = some B) (hne : i ≠ j) :
    (∀ d, x.dst = some d → y.dst ≠ some d) ∧ (Nat.testBit A j = true ∨ Nat.testBit B i = true ∨ ∀ d, x.dst = some d → d ∉ y.looksAt ops) := by
  unfold apartAll at h
  have hi : i < os.length := (List.getElem?_eq_some_iff.1 hx).1
  have hj : j < os.length := (List.getElem?_eq_some_iff.1 hy).1
  have h1 := List.all_eq_true.1 (List.all_eq_true.1 h i (List.mem_range.2 hi)) j (List.mem_range.2 hj)
  rw [hx, hy, hA, hB] at h1
  simp only [Bool.or_eq_true, Bool.and_eq_true, beq_iff_eq, hne, false_or] at h1
  obtain ⟨h2, h3⟩ := h1
  refine ⟨fun d hd hd' => ?_, ?_⟩
  · rw [hd, hd'] at h2
    simp at h2
  · rcases h3 with (h3 | h3) | h3
    · exact .inl h3
    · exact .inr (.inl h3)
    · refine .inr (.inr fun d hd => ?_)
      rw [hd] at h3
      simpa using h3
end
end
section
section
variable {P : Program} {G : Nat} {ops : Array Oper} {n : Nat} {cf : CallF} {base N cnt : Nat} {S : Nat → St} {I A q : Nat → Nat} {O : Nat → Oper} {T : Nat → Kin} {V : Nat → AV}
structure Run (P : Program) (G : Nat) (ops : Array Oper) (n : Nat) (cf : CallF) (base N cnt : Nat) (S : Nat → St) (I A q : Nat → Nat) (O : Nat → Oper) (T : Nat → Kin) (V : Nat → AV) : Prop where
  op : ∀ k, k < N → ops[I k]? = some (O k)
  step : ∀ k, k < N → StepR n cf base (I k) (gdOf ops (O k)) (O k).dst (comp P G (O k).op) (A k) (q k) (S k) (T k) (V k) (S (k + 1))
  inj : ∀ k l, k < N → l < N → I k = I l → k = l
  onto : ∀ i, i < ops.size → ∃ k, k < N ∧ I k = i
  before : ∀ k, k < N → ∀ j, Nat.testBit (A k) j = true → ∃ l, l < k ∧ I l = j
  edge : ∀ k, k < N → ∀ e ∈ (O k).after, Region.binds .any e = true → Nat.testBit (A k) e.on = true
  anc : ∀ k, k < N → ∀ j, Nat.testBit (A k) j = true → ∃ e ∈ (O k).after, Region.binds .any e = true ∧ (e.on = j ∨ ∃ l, l < N ∧ I l = e.on ∧ Nat.testBit (A l) j = true)
  apart : ∀ k l, k < N → l < N → k ≠ l → (∀ d, (O k).dst = some d → (O l).dst ≠ some d) ∧ (Nat.testBit (A k) (I l) = true ∨ Nat.testBit (A l) (I k) = true ∨ ∀ d, (O k).dst = some d → d ∉ (O l).looksAt ops)
  num : ∀ k, k < N → ∀ x, T k = .mk x → q k < cnt
  numlt : ∀ k l, k < l → l < N → ∀ x y, T k = .mk x → T l = .mk y → q k < q l
theorem StepR.isMk {base i : Nat} {g : Gd} {d : Option Tmp} {ins : Ins} {A q : Nat} {s s' : St} {x : Blk} {v : AV} (h : StepR n cf base i g d ins A q s (.mk x) v s') : (CO.mk g d ins).isMk = true := by
  obtain ⟨-, -, ⟨f, g', rfl, -⟩, -⟩ := h
  rfl
theorem plan_run {K} {s : St} (hp : planOk P G ops = true) (hh : (goDraw n cf base (planA P G ops) s.ρ s.hs s.ps s.rs s.E).all K) :
    ∃ N S I A q O T V, Run P G ops n cf base N (DI.count (planA P G ops)) S I A q O T V ∧ S 0 = s ∧ K .nrm (S N).ρ (putAll (S N).ps (S N).hs) := by
  obtain ⟨S, I, A, q, O, T, V, r, h0, hK⟩ := goDraw_rows P G ops planA_ok hh
  refine ⟨_, S, I, A, q, O, T, V, ?_, h0, hK⟩
  unfold planOk at hp
  rw [Bool.and_eq_true] at hp
  obtain ⟨hap, hord⟩ := hp
  obtain ⟨g1, g2⟩ := orderOk_spec hord
  have opL : ∀ k, k < (planA P G ops).length → ops.toList[I k]? = some (O k) := fun k hk => by simpa using r.op k hk
  have inj : ∀ k l, k < l → l < (planA P G ops).length → I k ≠ I l := fun k l hkl hl => by
    have := (g1 l _ _ _ _ (r.it l hl)).2.2.1 k _ hkl (r.it k (by omega))
    exact this
  have sz : ∀ k, k < (planA P G ops).length → I k < ops.size := fun k hk => (Array.getElem?_eq_some_iff.1 (r.op k hk)).1
  have onto : ∀ i, i < ops.size → ∃ k, k < (planA P G ops).length ∧ I k = i := fun i hi => by
    rcases g2 i (by show Nat.testBit (2 ^ ops.size - 1) i = true; rw [Nat.testBit_two_pow_sub_one]; simpa using hi) with hb | ⟨l, it, hl, he⟩
    · simp at hb
    · have hl' := (List.getElem?_eq_some_iff.1 hl).1
      rw [r.it l hl'] at hl
      injection hl with hl
      subst hl
      exact ⟨l, hl', he⟩
  refine ⟨r.op, r.step, ?_, onto, ?_, ?_, ?_, ?_, ?_, ?_⟩
  · intro k l hk hl e
    rcases Nat.lt_trichotomy k l with h | h | h
    · exact absurd e (inj k l h hl)
    · exact h
    · exact absurd e.symm (inj l k h hk)
  · intro k hk j hj
    rcases (g1 k _ _ _ _ (r.it k hk)).2.1 j hj with hb | ⟨l, it, hl, hit, he⟩
    · simp at hb
    · rw [r.it l (by omega)] at hit
      injection hit with hit
      subst hit
      exact ⟨l, hl, he⟩
  · intro k hk e he hb
    exact (ancs_bit (opL k hk) (r.an k hk)).2 ⟨e, he, hb, .inl rfl⟩
  · intro k hk j hj
    obtain ⟨e, he, hb, h⟩ := (ancs_bit (opL k hk) (r.an k hk)).1 hj
    refine ⟨e, he, hb, ?_⟩
    rcases h with h | ⟨hlt, B, hB, hbit⟩
    · exact .inl h
    · obtain ⟨l, hl, hIl⟩ := onto e.on (by have := sz k hk; omega)
      right
      refine ⟨l, hl, hIl, ?_⟩
      have := r.an l hl
      rw [hIl, hB] at this
      injection this with this
      rw [← this]
      exact hbit
  · intro k l hk hl hne
    refine apart_spec hap (opL k hk) (opL l hl) (r.an k hk) (r.an l hl) (fun e => ?_)
    rcases Nat.lt_trichotomy k l with h | h | h
    · exact inj k l h hl e
    · exact hne h
    · exact inj l k h hk e.symm
  · intro k hk x hx
    have hst := r.step k hk
    rw [hx] at hst
    have := ((g1 k _ _ _ _ (r.it k hk)).2.2.2 hst.isMk).2.1
    omega
  · intro k l hkl hl x y hx hy
    have hst := r.step k (by omega)
    rw [hx] at hst
    have hst' := r.step l hl
    rw [hy] at hst'
    exact ((g1 l _ _ _ _ (r.it l hl)).2.2.2 hst'.isMk).2.2 k _ _ _ _ hkl (r.it k (by omega)) hst.isMk
/-! ### frames along the plan -/
theorem PutD.get {d : Option Tmp} {v : AV} {ρ ρ' : PT AV} (h : PutD n d v ρ ρ') (t : Nat) : ρ'.get (Ps.of t) = if d = some t then some v else ρ.get (Ps.of t) := by
  rcases h with ⟨rfl, rfl⟩ | ⟨e, rfl, _, rfl⟩
  · simp
  · rw [PT.get_set_of]
    by_cases h : t = e
    · subst h; simp
    · rw [if_neg h, if_neg (by simpa using fun h' => h h'.symm)]
namespace Run
theorem wrote (R : Run P G ops n cf base N cnt S I A q O T V) : ∀ {k l : Nat} {t : Tmp}, l < k → k ≤ N → (O l).dst = some t → (S k).ρ.get (Ps.of t) = some (V l)
  | k + 1, l, t, hlk, hk, ht => by
    rw [(R.step k (by omega)).1.get t]
    by_cases e : l = k
    · subst e; rw [if_pos ht]
    · rw [if_neg (fun h => (R.apart k l (by omega) (by omega) (fun h => e h.symm)).1 t h ht)]
      exact wrote R (by omega) (by omega) ht
theorem kept (R : Run P G ops n cf base N cnt S I A q O T V) : ∀ {k : Nat} {t : Tmp}, k ≤ N → (∀ l, l < k → (O l).dst ≠ some t) → (S k).ρ.get (Ps.of t) = (S 0).ρ.get (Ps.of t)
  | 0, _, _, _ => rfl
  | k + 1, t, hk, h => by
    rw [(R.step k (by omega)).1.get t, if_neg (h k (by omega))]
    exact kept R (by omega) fun l hl => h l (by omega)
/-! ### effects along the plan -/
theorem effBit (R : Run P G ops n cf base N cnt S I A q O T V) : ∀ {k l : Nat}, l < k → k ≤ N → T l = .eff → Nat.testBit (S k).E (I l) = true
  | k + 1, l, hlk, hk, ht => by
    have st := R.step k (by omega)
    by_cases e : l = k
    · subst e
      rw [ht] at st
      rw [st.2.2.2.2.2.2.2.2, bit_or, bit_shl]
      simp
    · have ih := effBit R (k := k) (l := l) (by omega) (by omega) ht
      obtain ⟨-, st⟩ := st
      cases hT : T k <;> rw [hT] at st <;> simp only at st
      case skip => rw [st.2.2.2.2.2]; exact ih
      case free => rw [st.2.2.2.2.2]; exact ih
      case read => rw [st.2.2.2.2.2]; exact ih
      case mk => rw [st.2.2.2.2.2]; exact ih
      case eff => rw [st.2.2.2.2.2.2.2, bit_or, ih]; rfl
/-- an effect or a reading stands behind every effect ahead of it in the plan -/
theorem effAnc (R : Run P G ops n cf base N cnt S I A q O T V) {k l : Nat} (hlk : l < k) (hk : k < N) (hl : T l = .eff) (ht : T k = .eff ∨ T k = .read) : Nat.testBit (A k) (I l) = true := by
  have hb := effBit R hlk (by omega) hl
  obtain ⟨-, st⟩ := R.step k hk
  rcases ht with ht | ht <;> rw [ht] at st
  · exact land_bit st.2.1 hb
  · exact land_bit st.2.1 hb
theorem sameHs (R : Run P G ops n cf base N cnt S I A q O T V) {c : Nat} : ∀ {k : Nat}, c ≤ k → k ≤ N → (∀ e, c ≤ e → e < k → T e ≠ .eff) → (S k).hs = (S c).hs
  | 0, hc, _, _ => by rw [Nat.le_zero.1 hc]
  | k + 1, hc, hk, h => by
    by_cases e : c = k + 1
    · rw [e]
    · have ih := sameHs R (c := c) (k := k) (by omega) (by omega) fun e h1 h2 => h e h1 (by omega)
      obtain ⟨-, st⟩ := R.step k (by omega)
      cases hT : T k <;> rw [hT] at st <;> simp only at st
      case skip => rw [st.2.2.1]; exact ih
      case free => rw [st.2.2.1]; exact ih
      case read => rw [st.2.2.2.1]; exact ih
      case mk => rw [st.2.2.1]; exact ih
      case eff => exact absurd hT (h k (by omega) (by omega))
theorem psMem (R : Run P G ops n cf base N cnt S I A q O T V) {c : Nat} (h0 : (S c).ps = []) : ∀ {k : Nat}, c ≤ k → k ≤ N → (∀ e, c ≤ e → e < k → T e ≠ .eff) → ∀ p, p ∈ (S k).ps ↔ ∃ l x, c ≤ l ∧ l < k ∧ T l = .mk x ∧ p = ⟨Nat.add base (q l), I l, x⟩
  | 0, hc, _, _, p => by
    have e := Nat.le_zero.1 hc
    rw [← e, h0]
    constructor
    · intro h; simp at h
    · rintro ⟨l, x, h1, h2, -⟩; omega
  | k + 1, hc, hk, h, p => by
    by_cases e : c = k + 1
    · rw [← e, h0]
      constructor
      · intro h; simp at h
      · rintro ⟨l, x, h1, h2, -⟩; omega
    · have ih := psMem R h0 (k := k) (by omega) (by omega) (fun e h1 h2 => h e h1 (by omega)) p
      have more : (∀ x, T k ≠ .mk x) → ((∃ l x, c ≤ l ∧ l < k ∧ T l = .mk x ∧ p = ⟨Nat.add base (q l), I l, x⟩) ↔ ∃ l x, c ≤ l ∧ l < k + 1 ∧ T l = .mk x ∧ p = ⟨Nat.add base (q l), I l, x⟩) := fun hn => by
        constructor
        · rintro ⟨l, x, h1, h2, h3⟩; exact ⟨l, x, h1, by omega, h3⟩
        · rintro ⟨l, x, h1, h2, h3, h4⟩
          refine ⟨l, x, h1, ?_, h3, h4⟩
          rcases Nat.lt_or_ge l k with g | g
          · exact g
          · have : l = k := by omega
            subst this
            exact absurd h3 (hn x)
      obtain ⟨-, st⟩ := R.step k (by omega)
      cases hT : T k <;> rw [hT] at st <;> simp only at st
      case skip => rw [st.2.2.2.1, ih]; exact more (by rw [hT]; simp)
      case free => rw [st.2.2.2.1, ih]; exact more (by rw [hT]; simp)
      case read => rw [st.2.2.2.2.1, ih]; exact more (by rw [hT]; simp)
      case mk x =>
        rw [st.2.2.2.1, List.mem_cons, ih]
        constructor
        · rintro (rfl | ⟨l, x, h1, h2, h3⟩)
          · exact ⟨k, x, by omega, by omega, hT, rfl⟩
          · exact ⟨l, x, h1, by omega, h3⟩
        · rintro ⟨l, y, h1, h2, h3, h4⟩
          rcases Nat.lt_or_ge l k with g | g
          · exact .inr ⟨l, y, h1, g, h3, h4⟩
          · have : l = k := by omega
            subst this
            rw [hT] at h3
            injection h3 with h3
            subst h3
            exact .inl h4
      case eff => exact absurd hT (h k (by omega) (by omega))
end Run
/-! ### readings along the plan -/
theorem within_mem {A : Nat} : ∀ {l : List Put}, within A l = true → ∀ p ∈ l, Nat.testBit A p.i = true
  | [], _, p, h => by simp at h
  | x :: l, h, p, hp => by
    unfold within at h
    split at h
    · rename_i hx
      rcases List.mem_cons.1 hp with rfl | hp
      · exact hx
      · exact within_mem h p hp
    · cases h
theorem stillOpen_mem {A : Nat} : ∀ {l : List Rd} {r : Rd}, r ∈ l → Nat.testBit A r.i = false → r ∈ stillOpen A l
  | x :: l, r, h, hb => by
    unfold stillOpen
    rcases List.mem_cons.1 h with rfl | h
    · rw [hb]; exact List.mem_cons_self ..
    · split
      · exact stillOpen_mem h hb
      · exact List.mem_cons_of_mem _ (stillOpen_mem h hb)
theorem checkRds_mem {h : Hp} : ∀ {l : List Rd}, checkRds h l = true → ∀ r ∈ l, r.f h = some r.v
  | x :: l, hc, r, hr => by
    unfold checkRds at hc
    split at hc
    · rename_i v hv
      split at hc
      · rename_i hs
        rcases List.mem_cons.1 hr with rfl | hr
        · rw [hv, sameN_eq _ _ _ hs]
        · exact checkRds_mem hc r hr
      · cases hc
    · cases hc
theorem Run.reads (R : Run P G ops n cf base N cnt S I A q O T V) {l : Nat} (hl : l < N) (ht : T l = .read) : ∃ f, comp P G (O l).op = .read f ∧ ∀ k, l ≤ k → k ≤ N → (∀ e, l ≤ e → e < k → T e = .eff → Nat.testBit (A e) (I l) = false) →
    f (S l).ρ (S k).hs = some (V l) ∧ (l < k → (⟨I l, f (S l).ρ, V l⟩ : Rd) ∈ (S k).rs) := by
  obtain ⟨-, st⟩ := R.step l hl
  rw [ht] at st
  obtain ⟨-, -, ⟨f, h1, h2, h3⟩, -⟩ := st
  refine ⟨f, h1, fun k => ?_⟩
  induction k with
  | zero =>
    intro hk _ _
    have e := Nat.le_zero.1 hk
    rw [e] at h2 ⊢
    exact ⟨h2, fun h => absurd h (by omega)⟩
  | succ k ih =>
    intro hlk hk h
    by_cases e : l = k + 1
    · rw [← e]; exact ⟨h2, fun h => absurd h (by omega)⟩
    · obtain ⟨g1, g2⟩ := ih (by omega) (by omega) fun e h1 h2 => h e h1 (by omega)
      by_cases e' : l = k
      · subst e'
        have st := R.step l hl
        rw [ht] at st
        refine ⟨by rw [st.2.2.2.2.1]; exact h2, fun _ => by rw [h3]; exact List.mem_cons_self ..⟩
      · have g2 := g2 (by omega)
        obtain ⟨-, st⟩ := R.step k (by omega)
        cases hT : T k <;> rw [hT] at st <;> simp only at st
        case skip => rw [st.2.2.1, st.2.2.2.2.1]; exact ⟨g1, fun _ => g2⟩
        case free => rw [st.2.2.1, st.2.2.2.2.1]; exact ⟨g1, fun _ => g2⟩
        case read =>
          obtain ⟨_, _, ⟨f', _, _, hrs⟩, hhs, _⟩ := st
          rw [hhs, hrs]
          exact ⟨g1, fun _ => List.mem_cons_of_mem _ g2⟩
        case mk => rw [st.2.2.1, st.2.2.2.2.1]; exact ⟨g1, fun _ => g2⟩
        case eff =>
          have hb := h k (by omega) (by omega) hT
          obtain ⟨_, _, _, _, hc, _, hrs, _⟩ := st
          have hm := stillOpen_mem (A := A k) g2 hb
          rw [hrs]
          exact ⟨checkRds_mem hc _ hm, fun _ => hm⟩
end
end
section
section
variable {P : Program} {G : Nat}
@[simp] theorem putAll_nil (h : Hp) : putAll [] h = h := rfl
theorem putAll_cons (p : Put) (l : List Put) (h : Hp) : putAll (p :: l) h = putAll l (h.put p.b p.x) := rfl
@[simp] theorem next_putAll : ∀ (l : List Put) (h : Hp), (putAll l h).next = h.next
  | [], _ => rfl
  | p :: l, h => by rw [putAll_cons, next_putAll l, Hp.next_put]
theorem get_putAll : ∀ {l : List Put} {h : Hp} {b : Nat} {x : Blk}, (putAll l h).get b = some x → h.get b = some x ∨ ∃ p ∈ l, p.b = b
  | [], _, _, _, hh => .inl hh
  | p :: l, h, b, x, hh => by
    rw [putAll_cons] at hh
    rcases get_putAll hh with h1 | ⟨p', h1, h2⟩
    · rw [Hp.get_put] at h1
      by_cases e : b = p.b
      · exact .inr ⟨p, List.mem_cons_self .., e.symm⟩
      · rw [if_neg e] at h1; exact .inl h1
    · exact .inr ⟨p', List.mem_cons_of_mem _ h1, h2⟩
/-- a block that stands there becomes known -/
theorem Tr.know {φ0 φ : Phi} {h0 h : Hp} {w0 w : World} (t : Tr G φ0 h0 w0 φ h w) {b : Nat} {x : Blk} {pl : Pl} {ob : Obj} (h1 : φ b = some pl) (h2 : w.heap[pl.B]? = some ob) (h3 : RelO φ x ob pl) (h4 : w0.heap.size ≤ pl.B) (h5 : h0.next ≤ b)
    (h6 : ∀ b' x' p', h.get b' = some x' → φ b' = some p' → p'.B = pl.B → b' = b) : Tr G φ0 h0 w0 φ (h.put b x) w := by
  refine ⟨t.sub, ⟨⟨?_, ?_⟩, fun b' p' e => by rw [Hp.next_put]; exact t.rel.lt _ _ e, t.rel.glob, t.rel.olo⟩, by rw [Hp.next_put]; exact t.next, t.new, t.size, t.same, ?_, t.logs.trans (.put h b x), t.env⟩
  · intro b' y hb
    rw [Hp.get_put] at hb
    by_cases e : b' = b
    · rw [if_pos e] at hb; injection hb with hb; subst hb; subst e; exact ⟨pl, ob, h1, h2, h3⟩
    · rw [if_neg e] at hb; exact t.rel.heap.blk _ _ hb
  · intro b1 b2 y1 y2 q1 q2 k1 k2 k3 k4 k5
    rw [Hp.get_put] at k1 k2
    by_cases e1 : b1 = b <;> by_cases e2 : b2 = b
    · rw [e1, e2]
    · rw [if_neg e2] at k2
      subst e1
      rw [h1] at k3
      injection k3 with k3
      subst k3
      exact (h6 _ _ _ k2 k4 k5.symm).symm
    · rw [if_neg e1] at k1
      subst e2
      rw [h1] at k4
      injection k4 with k4
      subst k4
      exact h6 _ _ _ k1 k3 k5
    · rw [if_neg e1] at k1
      rw [if_neg e2] at k2
      exact t.rel.heap.inj _ _ _ _ _ _ k1 k2 k3 k4 k5
  · intro b' y q hb hq
    rw [Hp.get_put] at hb
    by_cases e : b' = b
    · subst e
      rw [h1] at hq
      injection hq with hq
      subst hq
      exact .inr ⟨h5, .inl h4⟩
    · rw [if_neg e] at hb; exact t.dom _ _ _ hb hq
theorem Tr.knowAll {φ0 φ : Phi} {h0 : Hp} {w0 w : World} : ∀ {ps : List Put} {h : Hp}, Tr G φ0 h0 w0 φ h w →
    (∀ p ∈ ps, ∃ pl ob, φ p.b = some pl ∧ w.heap[pl.B]? = some ob ∧ RelO φ p.x ob pl ∧ w0.heap.size ≤ pl.B ∧ h0.next ≤ p.b ∧ ∀ b' x' p', h.get b' = some x' → φ b' = some p' → p'.B = pl.B → b' = p.b) →
    (∀ p ∈ ps, ∀ p' ∈ ps, ∀ pl pl', φ p.b = some pl → φ p'.b = some pl' → pl.B = pl'.B → p.b = p'.b) → Tr G φ0 h0 w0 φ (putAll ps h) w
  | [], _, t, _, _ => t
  | p :: ps, h, t, h1, h2 => by
    rw [putAll_cons]
    obtain ⟨pl, ob, g1, g2, g3, g4, g5, g6⟩ := h1 p (List.mem_cons_self ..)
    refine Tr.knowAll (t.know g1 g2 g3 g4 g5 g6) ?_ (fun p1 m1 p2 m2 => h2 p1 (List.mem_cons_of_mem _ m1) p2 (List.mem_cons_of_mem _ m2))
    intro p' hp'
    obtain ⟨pl', ob', k1, k2, k3, k4, k5, k6⟩ := h1 p' (List.mem_cons_of_mem _ hp')
    refine ⟨pl', ob', k1, k2, k3, k4, k5, fun b' x' p'' hb hq he => ?_⟩
    rw [Hp.get_put] at hb
    by_cases e : b' = p.b
    · rw [e] at hq ⊢
      exact h2 p (List.mem_cons_self ..) p' (List.mem_cons_of_mem _ hp') _ _ hq k1 he
    · rw [if_neg e] at hb; exact k6 _ _ _ hb hq he
/-- a block is made, of which the heap does not yet know -/
theorem Tr.early {φ0 φ : Phi} {h0 h : Hp} {w0 w w' : World} (t : Tr G φ0 h0 w0 φ h w) {b : Nat} {pl : Pl} {ob : Obj} (hn : φ b = none) (hb0 : h0.next ≤ b) (hb : b < h.next) (_hB : pl.B = w.heap.size) (hpo : pl.o ≤ pl.lo) (hw : w'.heap = w.heap.push ob) (he : Env w w' := by exact ⟨rfl, rfl, rfl⟩) : Tr G φ0 h0 w0 (φ.add b pl) h w' := by
  have hs := Phi.sub_add (p := pl) hn
  have hne : ∀ {b' x}, h.get b' = some x → b' ≠ b := fun {b' x} hb' e => by
    obtain ⟨q, _, hq, _⟩ := t.rel.heap.blk _ _ hb'
    rw [e, hn] at hq
    cases hq
  refine ⟨t.sub.trans hs, ⟨⟨?_, ?_⟩, ?_, ?_, ?_⟩, t.next, ?_, by rw [hw]; have := t.size; simp; omega, ?_, ?_, t.logs, t.env.trans he⟩
  · intro b' y hb'
    obtain ⟨q, o, h1, h2, h3⟩ := t.rel.heap.blk b' y hb'
    refine ⟨q, o, hs _ _ h1, ?_, h3.mono hs⟩
    rw [hw, Array.getElem?_push_lt (Array.getElem?_eq_some_iff.1 h2).1]
    exact (Array.getElem?_eq_getElem (Array.getElem?_eq_some_iff.1 h2).1).symm.trans h2
  · intro b1 b2 y1 y2 q1 q2 k1 k2 k3 k4 k5
    rw [Phi.add_ne (hne k1)] at k3
    rw [Phi.add_ne (hne k2)] at k4
    exact t.rel.heap.inj _ _ _ _ _ _ k1 k2 k3 k4 k5
  · intro b' q hq
    by_cases e : b' = b
    · omega
    · rw [Phi.add_ne e] at hq; exact t.rel.lt _ _ hq
  · intro g hg
    obtain ⟨N, hN⟩ := t.rel.glob g hg
    exact ⟨N, hs _ _ hN⟩
  · intro b' q hq
    by_cases e : b' = b
    · subst e
      rw [Phi.add_same] at hq
      injection hq with hq
      subst hq
      exact hpo
    · rw [Phi.add_ne e] at hq; exact t.rel.olo _ _ hq
  · intro b' e1 e2
    by_cases e : b' = b
    · omega
    · rw [Phi.add_ne e] at e2; exact t.new b' e1 e2
  · intro B hB' hl
    rw [hw, Array.getElem?_push_lt (Nat.lt_of_lt_of_le hB' t.size)]
    rw [← t.same B hB' hl]
    exact (Array.getElem?_eq_getElem (Nat.lt_of_lt_of_le hB' t.size)).symm
  · intro b' y q hb' hq
    rw [Phi.add_ne (hne hb')] at hq
    exact t.dom _ _ _ hb' hq

/-! ### a part of a frame -/
noncomputable def keepT (l : List Tmp) (ρ : PT AV) : PT AV := l.foldr (fun t r => r.set (ρ.get (Ps.of t)) (Ps.of t)) .lf
theorem keepT_get (ρ : PT AV) (t : Tmp) : ∀ (l : List Tmp), (keepT l ρ).get (Ps.of t) = if t ∈ l then ρ.get (Ps.of t) else none
  | [] => by simp [keepT]
  | x :: l => by
    show ((keepT l ρ).set (ρ.get (Ps.of x)) (Ps.of x)).get (Ps.of t) = _
    rw [PT.get_set_of, keepT_get ρ t l]
    by_cases e : t = x
    · subst e; simp
    · simp [e]
variable {ops : Array Oper} {n : Nat} {cf : CallF} {base N cnt : Nat} {S : Nat → St} {I A q : Nat → Nat} {O : Nat → Oper} {T : Nat → Kin} {V : Nat → AV}
theorem keep_rd {o : Oper} {ρ : PT AV} : ∀ x ∈ o.op.operands, rd G ρ x = rd G (keepT (o.looksAt ops) ρ) x := by
  intro x hx
  cases x with
  | tmp t =>
    show ρ.get (Ps.of t) = (keepT (o.looksAt ops) ρ).get (Ps.of t)
    rw [keepT_get, if_pos]
    unfold Oper.looksAt
    refine List.mem_append.2 (.inl (List.mem_filterMap.2 ⟨.tmp t, by simpa using hx, rfl⟩))
  | const c => rfl
  | global g => rfl
  | func f => rfl
theorem keep_want {o : Oper} {ρ : PT AV} : wantA (gdOf ops o) (keepT (o.looksAt ops) ρ) = wantA (gdOf ops o) ρ := by
  unfold gdOf
  cases hg : o.guard with
  | none => rfl
  | some jw =>
    obtain ⟨j, want⟩ := jw
    simp only
    cases hj : ops[j]? with
    | none => rfl
    | some p =>
      simp only
      cases hd : p.dst with
      | none => rfl
      | some d =>
        simp only [wantA]
        rw [keepT_get, if_pos]
        unfold Oper.looksAt
        refine List.mem_append.2 (.inr ?_)
        rw [hg]
        simp [hj, hd]
/-- which operations have been done, and what then holds -/
structure Inv (R : Run P G ops n cf base N cnt S I A q O T V) (φ0 : Phi) (h0 : Hp) (w0 : World) (ds : List Deferred) (D : Nat → Prop) (c : Nat) (φ : Phi) (a : Act) (w : World) : Prop where
  cN : c ≤ N
  clean : (S c).ps = []
  eff : ∀ k, k < N → T k = .eff → (D k ↔ k < c)
  mks : ∀ k, k < c → ∀ x, T k = .mk x → D k
  tr : Tr G φ0 h0 w0 φ (S c).hs w
  nx : base + cnt ≤ (S c).hs.next
  ex : ∀ k x, k < N → c ≤ k → D k → T k = .mk x → ∃ p ob, φ (Nat.add base (q k)) = some p ∧ w.heap[p.B]? = some ob ∧ RelO φ x ob p ∧ w0.heap.size ≤ p.B ∧ ∀ b' x' p', (S c).hs.get b' = some x' → φ b' = some p' → p'.B ≠ p.B
  exd : ∀ k l x y p p', k < N → l < N → c ≤ k → c ≤ l → D k → D l → T k = .mk x → T l = .mk y → φ (Nat.add base (q k)) = some p → φ (Nat.add base (q l)) = some p' → p.B = p'.B → k = l
  un : ∀ k x, k < N → ¬ D k → T k = .mk x → φ (Nat.add base (q k)) = none
  fsz : n ≤ a.tmps.size
  fwr : ∀ k t, k < N → D k → (O k).dst = some t → ∃ u, a.tmps[t]? = some u ∧ RelV φ (V k) u
  fold : ∀ t v, (∀ k, k < N → D k → (O k).dst ≠ some t) → (S 0).ρ.get (Ps.of t) = some v → ∃ u, a.tmps[t]? = some u ∧ RelV φ v u
  dfr : a.defers = ds
section
variable {R : Run P G ops n cf base N cnt S I A q O T V} {φ0 φ : Phi} {h0 : Hp} {w0 w : World} {ds : List Deferred} {D : Nat → Prop} {c : Nat} {a : Act}
/-- what an operation looks at is what the plan says -/
theorem Inv.frame (v : Inv R φ0 h0 w0 ds D c φ a w) (hcl : ∀ k, k < N → D k → ∀ l, l < N → Nat.testBit (A k) (I l) = true → D l) {k : Nat} (hk : k < N) (hD : ¬ D k) (hA : ∀ l, l < N → Nat.testBit (A k) (I l) = true → D l) :
    EnvRel n φ (keepT ((O k).looksAt ops) (S k).ρ) a.tmps := by
  refine ⟨v.fsz, fun t b hb => ?_⟩
  rw [keepT_get] at hb
  by_cases ht : t ∈ (O k).looksAt ops
  · rw [if_pos ht] at hb
    by_cases hw : ∃ l, l < k ∧ (O l).dst = some t
    · obtain ⟨l, hl, hd⟩ := hw
      rw [R.wrote hl (by omega) hd] at hb
      injection hb with hb
      subst hb
      refine v.fwr l t (by omega) ?_ hd
      rcases (R.apart l k (by omega) hk (by omega)).2 with h | h | h
      · obtain ⟨m, hm, he⟩ := R.before l (by omega) _ h
        have := R.inj m k (by omega) hk he
        omega
      · exact hA l (by omega) h
      · exact absurd ht (h t hd)
    · rw [R.kept (by omega) (fun l hl hd => hw ⟨l, hl, hd⟩)] at hb
      refine v.fold t b (fun l hl hDl hd => ?_) hb
      by_cases e : l = k
      · subst e; exact hD hDl
      · have hlt : k < l := by
          rcases Nat.lt_or_ge k l with h | h
          · exact h
          · exact absurd ⟨l, by omega, hd⟩ hw
        rcases (R.apart l k hl hk e).2 with h | h | h
        · exact hD (hcl l hl hDl k hk h)
        · obtain ⟨m, hm, he⟩ := R.before k hk _ h
          have := R.inj m l (by omega) hl he
          omega
        · exact h t hd ht
  · rw [if_neg ht] at hb; cases hb
end
end
end
section
section
variable {P : Program} {G : Nat} {ops : Array Oper} {n : Nat} {cf : CallF} {base N cnt : Nat} {S : Nat → St} {I A q : Nat → Nat} {O : Nat → Oper} {T : Nat → Kin} {V : Nat → AV}
variable {R : Run P G ops n cf base N cnt S I A q O T V} {φ0 φ : Phi} {h0 : Hp} {w0 w : World} {ds : List Deferred} {D : Nat → Prop} {c : Nat} {a : Act}
theorem Act.put_get (a : Act) (d : Tmp) (u : Value) (t : Tmp) : (a.put (some d) u).tmps[t]? = if t = d then (if t < a.tmps.size then some u else none) else a.tmps[t]? := by
  simp only [Act.put]
  by_cases e : t = d
  · subst e
    rw [if_pos rfl, Array.getElem?_setIfInBounds]
    simp
  · rw [if_neg e, Array.getElem?_setIfInBounds_ne (Ne.symm e)]
/-- the frame behind one operation more -/
theorem Inv.put (v : Inv R φ0 h0 w0 ds D c φ a w) {k : Nat} (hk : k < N) {φ' : Phi} (hs : φ.sub φ') {u : Value} (hu : RelV φ' (V k) u) :
    n ≤ (a.put (O k).dst u).tmps.size ∧ (∀ l t, l < N → (D l ∨ l = k) → (O l).dst = some t → ∃ x, (a.put (O k).dst u).tmps[t]? = some x ∧ RelV φ' (V l) x) ∧
      (∀ t b, (∀ l, l < N → (D l ∨ l = k) → (O l).dst ≠ some t) → (S 0).ρ.get (Ps.of t) = some b → ∃ x, (a.put (O k).dst u).tmps[t]? = some x ∧ RelV φ' b x) ∧ (a.put (O k).dst u).defers = ds := by
  have old : ∀ t, (O k).dst ≠ some t → (a.put (O k).dst u).tmps[t]? = a.tmps[t]? := fun t ht => by
    cases hd : (O k).dst with
    | none => rfl
    | some d => rw [Act.put_get, if_neg (fun e => ht (by rw [hd, e]))]
  refine ⟨?_, ?_, ?_, ?_⟩
  · cases (O k).dst <;> simpa [Act.put] using v.fsz
  · intro l t hl hD ht
    by_cases e : l = k
    · subst e
      refine ⟨u, ?_, hu⟩
      rw [ht, Act.put_get, if_pos rfl, if_pos]
      rcases (R.step l hl).1 with ⟨h1, _⟩ | ⟨t', h1, h2, _⟩
      · rw [ht] at h1; cases h1
      · rw [ht] at h1
        injection h1 with h1
        subst h1
        exact Nat.lt_of_lt_of_le h2 v.fsz
    · rw [old t (fun h => (R.apart k l hk hl (fun h => e h.symm)).1 t h ht)]
      obtain ⟨x, h1, h2⟩ := v.fwr l t hl (hD.resolve_right e) ht
      exact ⟨x, h1, h2.mono hs⟩
  · intro t b h hb
    rw [old t (h k hk (.inr rfl))]
    obtain ⟨x, h1, h2⟩ := v.fold t b (fun l hl hD => h l hl (.inl hD)) hb
    exact ⟨x, h1, h2.mono hs⟩
  · rw [put_defers]; exact v.dfr
theorem Inv.quiet (v : Inv R φ0 h0 w0 ds D c φ a w) {k : Nat} (hk : k < N) (hT : T k ≠ .eff) (hT' : ∀ x, T k ≠ .mk x) {u : Value} (hu : RelV φ (V k) u) : Inv R φ0 h0 w0 ds (fun l => D l ∨ l = k) c φ (a.put (O k).dst u) w := by
  obtain ⟨f1, f2, f3, f4⟩ := v.put hk (.refl _) hu
  have back : ∀ {l}, (D l ∨ l = k) → l ≠ k → D l := fun h e => h.resolve_right e
  have nmk : ∀ {l x}, T l = .mk x → l ≠ k := fun h e => hT' _ (e ▸ h)
  refine ⟨v.cN, v.clean, fun l hl ht => ?_, fun l hl x hx => .inl (v.mks l hl x hx), v.tr, v.nx, fun l x hl hc hd hx => v.ex l x hl hc (back hd (nmk hx)) hx,
    fun l m x y p p' h1 h2 h3 h4 h5 h6 h7 h8 => v.exd l m x y p p' h1 h2 h3 h4 (back h5 (nmk h7)) (back h6 (nmk h8)) h7 h8, fun l x hl hd hx => v.un l x hl (fun h => hd (.inl h)) hx, f1, f2, f3, f4⟩
  have hne : l ≠ k := fun e => hT (e ▸ ht)
  exact ⟨fun h => (v.eff l hl ht).1 (back h hne), fun h => .inl ((v.eff l hl ht).2 h)⟩
theorem base_inj {a b : Nat} (h : Nat.add base a = Nat.add base b) : a = b := by
  have h : base + a = base + b := h
  omega
theorem Run.qinj (R : Run P G ops n cf base N cnt S I A q O T V) {k l : Nat} (hk : k < N) (hl : l < N) {x y : Blk} (hx : T k = .mk x) (hy : T l = .mk y) (h : q k = q l) : k = l := by
  rcases Nat.lt_trichotomy k l with g | g | g
  · have := R.numlt k l g hl x y hx hy; omega
  · exact g
  · have := R.numlt l k g hk y x hy hx; omega
theorem Inv.made (v : Inv R φ0 h0 w0 ds D c φ a w) (hbase : h0.next ≤ base) {k : Nat} (hk : k < N) (hD : ¬ D k) {x : Blk} (hT : T k = .mk x) {w' : World} {ob : Obj} {M : Nat} (hw : w'.heap = w.heap.push ob) (hwe : Env w w')
    (ho : RelO (φ.add (Nat.add base (q k)) ⟨w.heap.size, 0, 0, M⟩) x ob ⟨w.heap.size, 0, 0, M⟩) {u : Value} (hu : RelV (φ.add (Nat.add base (q k)) ⟨w.heap.size, 0, 0, M⟩) (V k) u) :
    Inv R φ0 h0 w0 ds (fun l => D l ∨ l = k) c (φ.add (Nat.add base (q k)) ⟨w.heap.size, 0, 0, M⟩) (a.put (O k).dst u) w' := by
  have hn := v.un k x hk hD hT
  have hs := Phi.sub_add (p := ⟨w.heap.size, 0, 0, M⟩) hn
  obtain ⟨f1, f2, f3, f4⟩ := v.put hk hs hu
  have hck : c ≤ k := by
    rcases Nat.lt_or_ge k c with h | h
    · exact absurd (v.mks k h x hT) hD
    · exact h
  have hq := R.num k hk x hT
  have hnx := v.nx
  have hbk : Nat.add base (q k) < (S c).hs.next := by show base + q k < _; omega
  have tr' := v.tr.early (pl := ⟨w.heap.size, 0, 0, M⟩) (w' := w') hn (by show h0.next ≤ base + q k; omega) hbk rfl (Nat.le_refl _) hw hwe
  have nq : ∀ {l y}, l < N → l ≠ k → T l = .mk y → Nat.add base (q l) ≠ Nat.add base (q k) := fun hl e hy h => e (R.qinj hl hk hy hT (base_inj h))
  have ne : ∀ {b' x'}, (S c).hs.get b' = some x' → b' ≠ Nat.add base (q k) := fun {b' x'} hb e => by
    obtain ⟨p, _, hp, _⟩ := v.tr.rel.heap.blk _ _ hb
    rw [e, hn] at hp
    cases hp
  have sz : ∀ {l y}, l < N → c ≤ l → D l → T l = .mk y → ∀ {p}, φ (Nat.add base (q l)) = some p → p.B < w.heap.size := fun {l y} hl hc hd hy {p} hp => by
    obtain ⟨p1, ob1, h1, h2, _⟩ := v.ex l y hl hc hd hy
    rw [hp] at h1
    injection h1 with h1
    subst h1
    exact (Array.getElem?_eq_some_iff.1 h2).1
  refine ⟨v.cN, v.clean, ?_, fun l hl y hy => .inl (v.mks l hl y hy), tr', v.nx, ?_, ?_, ?_, f1, f2, f3, f4⟩
  · intro l hl ht
    have hne : l ≠ k := fun e => by subst e; rw [hT] at ht; cases ht
    exact ⟨fun h => (v.eff l hl ht).1 (h.resolve_right hne), fun h => .inl ((v.eff l hl ht).2 h)⟩
  · intro l y hl hc hd hy
    by_cases e : l = k
    · subst e
      rw [hT] at hy
      injection hy with hy
      subst hy
      refine ⟨_, ob, Phi.add_same, by rw [hw]; simp, ho, v.tr.size, fun b' x' p' hb hp => ?_⟩
      rw [Phi.add_ne (ne hb)] at hp
      have := v.tr.rel.size_lt hb hp
      show p'.B ≠ w.heap.size
      omega
    · obtain ⟨p, ob1, h1, h2, h3, h4, h5⟩ := v.ex l y hl hc (hd.resolve_right e) hy
      refine ⟨p, ob1, hs _ _ h1, ?_, h3.mono hs, h4, fun b' x' p' hb hp => ?_⟩
      · rw [hw, Array.getElem?_push_lt (Array.getElem?_eq_some_iff.1 h2).1]
        exact (Array.getElem?_eq_getElem (Array.getElem?_eq_some_iff.1 h2).1).symm.trans h2
      · rw [Phi.add_ne (ne hb)] at hp
        exact h5 b' x' p' hb hp
  · intro l m y z p p' hl hm hcl hcm hdl hdm hy hz hp hp' he
    by_cases e1 : l = k <;> by_cases e2 : m = k
    · rw [e1, e2]
    · subst e1
      rw [Phi.add_same] at hp
      injection hp with hp
      subst hp
      rw [Phi.add_ne (nq hm e2 hz)] at hp'
      have := sz hm hcm (hdm.resolve_right e2) hz hp'
      simp only at he
      omega
    · subst e2
      rw [Phi.add_same] at hp'
      injection hp' with hp'
      subst hp'
      rw [Phi.add_ne (nq hl e1 hy)] at hp
      have := sz hl hcl (hdl.resolve_right e1) hy hp
      simp only at he
      omega
    · rw [Phi.add_ne (nq hl e1 hy)] at hp
      rw [Phi.add_ne (nq hm e2 hz)] at hp'
      exact v.exd l m y z p p' hl hm hcl hcm (hdl.resolve_right e1) (hdm.resolve_right e2) hy hz hp hp' he
  · intro l y hl hd hy
    have e : l ≠ k := fun e => hd (.inr e)
    rw [Phi.add_ne (nq hl e hy)]
    exact v.un l y hl (fun h => hd (.inl h)) hy
/-- the heap with all blocks that the plan has made up to here -/
theorem Inv.full (v : Inv R φ0 h0 w0 ds D c φ a w) (hbase : h0.next ≤ base) {k : Nat} (hck : c ≤ k) (hk : k ≤ N) (hne : ∀ e, c ≤ e → e < k → T e ≠ .eff) (hmk : ∀ l x, c ≤ l → l < k → T l = .mk x → D l) : Tr G φ0 h0 w0 φ (putAll (S k).ps (S k).hs) w := by
  rw [R.sameHs hck hk hne]
  refine Tr.knowAll v.tr ?_ ?_
  · intro p hp
    obtain ⟨l, x, h1, h2, h3, rfl⟩ := (R.psMem v.clean hck hk hne p).1 hp
    obtain ⟨pl, ob, g1, g2, g3, g4, g5⟩ := v.ex l x (by omega) h1 (hmk l x h1 h2 h3) h3
    exact ⟨pl, ob, g1, g2, g3, g4, by show h0.next ≤ base + q l; omega, fun b' x' p' hb hq he => absurd he (g5 b' x' p' hb hq)⟩
  · intro p hp p' hp' pl pl' h1 h2 h3
    obtain ⟨l, x, k1, k2, k3, rfl⟩ := (R.psMem v.clean hck hk hne p).1 hp
    obtain ⟨m, y, j1, j2, j3, rfl⟩ := (R.psMem v.clean hck hk hne p').1 hp'
    have := v.exd l m x y pl pl' (by omega) (by omega) k1 j1 (hmk l x k1 k2 k3) (hmk m y j1 j2 j3) k3 j3 h1 h2 h3
    rw [this]
theorem Inv.done (v : Inv R φ0 h0 w0 ds D c φ a w) (s0 : SRel G φ0 h0 w0) (hbase : h0.next ≤ base) {k : Nat} (hk : k < N) (hck : c ≤ k) (hT : T k = .eff) (hne : ∀ e, c ≤ e → e < k → T e ≠ .eff) (hmk : ∀ l x, c ≤ l → l < k → T l = .mk x → D l)
    (hlt : ∀ e, e < N → T e = .eff → D e → e < k)
    {φ' : Phi} {w' : World} (t' : Tr G φ (putAll (S k).ps (S k).hs) w φ' (S (k + 1)).hs w') {u : Value} (hu : RelV φ' (V k) u) : Inv R φ0 h0 w0 ds (fun l => D l ∨ l = k) (k + 1) φ' (a.put (O k).dst u) w' := by
  have tb := v.full hbase hck (by omega) hne hmk
  obtain ⟨f1, f2, f3, f4⟩ := v.put hk t'.sub hu
  have st := R.step k hk
  rw [hT] at st
  have nmk : ∀ {l x}, T l = .mk x → l ≠ k := fun h e => by subst e; rw [hT] at h; cases h
  have hnb : (putAll (S k).ps (S k).hs).next = (S c).hs.next := by rw [next_putAll, R.sameHs hck (by omega) hne]
  have hnx := v.nx
  -- a block made early stays as it is
  have apart : ∀ {l x}, l < N → k + 1 ≤ l → D l → T l = .mk x → ∀ {p}, φ (Nat.add base (q l)) = some p → p.B < w.heap.size ∧ ∀ b' x' p', (putAll (S k).ps (S k).hs).get b' = some x' → φ b' = some p' → p'.B ≠ p.B := fun {l x} hl hkl hd hx {p} hp => by
    obtain ⟨p1, ob1, h1, h2, h3, h4, h5⟩ := v.ex l x hl (by omega) hd hx
    rw [hp] at h1
    injection h1 with h1
    subst h1
    refine ⟨(Array.getElem?_eq_some_iff.1 h2).1, fun b' x' p' hb hq he => ?_⟩
    rcases get_putAll hb with hb | ⟨pt, hpt, hptb⟩
    · rw [R.sameHs hck (by omega) hne] at hb
      exact h5 b' x' p' hb hq he
    · obtain ⟨m, y, k1, k2, k3, rfl⟩ := (R.psMem v.clean hck (by omega) hne pt).1 hpt
      simp only at hptb
      subst hptb
      have := v.exd m l y x p' p (by omega) hl k1 (by omega) (hmk m y k1 k2 k3) hd k3 hx hq hp he
      omega
  refine ⟨by omega, st.2.2.2.2.2.2.1, ?_, ?_, tb.trans s0 t', by have := t'.next; omega, ?_, ?_, ?_, f1, f2, f3, f4⟩
  · intro l hl ht
    constructor
    · rintro (h | h)
      · have := hlt l hl ht h; omega
      · omega
    · intro h
      by_cases e : l = k
      · exact .inr e
      · left
        refine (v.eff l hl ht).2 ?_
        rcases Nat.lt_or_ge l c with g | g
        · exact g
        · exact absurd ht (hne l g (by omega))
  · intro l hl x hx
    have e := nmk hx
    left
    rcases Nat.lt_or_ge l c with g | g
    · exact v.mks l g x hx
    · exact hmk l x g (by omega) hx
  · intro l x hl hc hd hx
    have hd := hd.resolve_right (nmk hx)
    obtain ⟨p, ob, h1, h2, h3, h4, h5⟩ := v.ex l x hl (by omega) hd hx
    obtain ⟨g1, g2⟩ := apart hl hc hd hx h1
    refine ⟨p, ob, t'.sub _ _ h1, ?_, h3.mono t'.sub, h4, ?_⟩
    · rw [t'.same p.B g1 (by rintro ⟨b, y, p', _, hb, hp', he⟩; exact g2 b y p' hb hp' he)]
      exact h2
    · intro b' x' p' hb hp' he
      rcases t'.dom b' x' p' hb hp' with ⟨y, hy⟩ | ⟨_, g | ⟨b, y, p2, _, hb2, hp2, he2⟩⟩
      · obtain ⟨p3, _, hp3, _⟩ := tb.rel.heap.blk _ _ hy
        have := t'.sub _ _ hp3
        rw [hp'] at this
        injection this with this
        subst this
        exact g2 b' y _ hy hp3 he
      · omega
      · exact g2 b y p2 hb2 hp2 (he2.trans he)
  · intro l m x y p p' hl hm hcl hcm hdl hdm hx hy hp hp' he
    have hdl := hdl.resolve_right (nmk hx)
    have hdm := hdm.resolve_right (nmk hy)
    obtain ⟨p1, _, h1, _⟩ := v.ex l x hl (by omega) hdl hx
    obtain ⟨p2, _, h2, _⟩ := v.ex m y hm (by omega) hdm hy
    have e1 := t'.sub _ _ h1
    rw [hp] at e1
    injection e1 with e1
    subst e1
    have e2 := t'.sub _ _ h2
    rw [hp'] at e2
    injection e2 with e2
    subst e2
    exact v.exd l m x y _ _ hl hm (by omega) (by omega) hdl hdm hx hy h1 h2 he
  · intro l x hl hd hx
    have h1 := v.un l x hl (fun h => hd (.inl h)) hx
    cases h2 : φ' (Nat.add base (q l)) with
    | none => rfl
    | some p =>
      have := t'.new _ h1 (by rw [h2]; simp)
      have hq := R.num l hl x hx
      rw [hnb] at this
      have : (S c).hs.next ≤ base + q l := this
      omega
end
end
section
section
variable {P : Program} {G : Nat} {ops : Array Oper} {n : Nat} {cf : CallF} {base N cnt : Nat} {S : Nat → St} {I A q : Nat → Nat} {O : Nat → Oper} {T : Nat → Kin} {V : Nat → AV}
variable {R : Run P G ops n cf base N cnt S I A q O T V} {φ0 φ : Phi} {h0 : Hp} {w0 w : World} {ds : List Deferred} {D : Nat → Prop} {c : Nat} {a : Act}
theorem Inv.step (hcf : CfOk P G cf) (v : Inv R φ0 h0 w0 ds D c φ a w) (s0 : SRel G φ0 h0 w0) (hbase : h0.next ≤ base) (hcl : ∀ k, k < N → D k → ∀ l, l < N → Nat.testBit (A k) (I l) = true → D l) {k : Nat} (hk : k < N) (hD : ¬ D k)
    (hA : ∀ l, l < N → Nat.testBit (A k) (I l) = true → D l) {Q : Exit → Act → World → Prop} {X : Act → World → Prop}
    (hX : ∀ c' φ' a' w', Inv R φ0 h0 w0 ds (fun l => D l ∨ l = k) c' φ' a' w' → X a' w') : wpOp P ops Q (I k) X a w := by
  unfold wpOp
  simp only [R.op k hk]
  have fr := v.frame hcl hk hD hA
  have ev := fr.ev v.tr.rel
  have same := comp_congr (P := P) (G := G) (ρ := (S k).ρ) (ρ' := keepT ((O k).looksAt ops) (S k).ρ) (O k).op keep_rd
  have hcomp := comp_ok (P := P) (G := G) (O k)
  have effLt : ∀ e, e < N → T e = .eff → D e → e < c := fun e he ht hd => (v.eff e he ht).1 hd
  obtain ⟨-, st⟩ := R.step k hk
  have wanted : wantA (gdOf ops (O k)) (S k).ρ = some true → Region.wanted (O k) (yielded ops a.tmps) = true := fun h => wantA_ok fr (by rw [keep_want]; exact h)
  -- an operation that changes no world
  have gives : (∃ u, Ok P (execOp a.eval (O k)) w (.value u) w ∧ RelV φ (V k) u) → T k ≠ .eff → (∀ x, T k ≠ .mk x) → (O k).wp P a w X Q := fun h h1 h2 => by
    obtain ⟨u, g1, g2⟩ := h
    unfold Oper.wp
    unfold Ok at g1
    rw [g1]
    exact hX _ _ _ _ (v.quiet hk h1 h2 g2)
  cases hT : T k with
  | skip =>
    rw [hT] at st
    have hw := wantA_ok fr (by rw [keep_want]; exact st.1)
    rw [hw]
    simp only [Bool.false_eq_true, if_false]
    exact hX _ _ _ _ (v.quiet hk (by rw [hT]; simp) (by rw [hT]; simp) (by rw [st.2.1]; exact skipV_rel))
  | free =>
    rw [hT] at st
    rw [wanted st.1]
    simp only [if_true]
    refine .inl (gives ?_ (by rw [hT]; simp) (by rw [hT]; simp))
    obtain ⟨f, hf, hv⟩ := st.2.1
    rw [hf] at same hcomp
    exact hcomp φ (S k).hs _ a.eval (V k) w ev ((same _).symm.trans hv)
  | read =>
    rw [hT] at st
    rw [wanted st.1]
    simp only [if_true]
    refine .inl (gives ?_ (by rw [hT]; simp) (by rw [hT]; simp))
    obtain ⟨f, hf, hrd⟩ := R.reads hk hT
    have hv : f (S k).ρ (S c).hs = some (V k) := by
      rcases Nat.lt_or_ge k c with h | h
      · refine (hrd c (by omega) v.cN fun e h1 h2 h3 => ?_).1
        have hDe : D e := (v.eff e (by have := v.cN; omega) h3).2 h2
        rw [Bool.eq_false_iff]
        exact fun hb => hD (hcl e (by have := v.cN; omega) hDe k hk hb)
      · rw [← R.sameHs h (by omega) fun e h1 h2 h3 => ?_]
        · exact (hrd k (Nat.le_refl _) (by omega) fun e h1 h2 => absurd h1 (by omega)).1
        · have := effLt e (by omega) h3 (hA e (by omega) (R.effAnc h2 hk h3 (.inr hT)))
          omega
    rw [hf] at same hcomp
    exact hcomp φ (S c).hs _ a.eval (V k) w ev v.tr.rel ((same _).symm.trans hv)
  | mk x =>
    rw [hT] at st
    rw [wanted st.1]
    simp only [if_true]
    refine .inl ?_
    obtain ⟨f, g', hf, hx, hv⟩ := st.2.1
    rw [hf] at same hcomp
    obtain ⟨u, w', ob, M, g1, g2, g3⟩ := hcomp φ _ a.eval x g' w ev ((show f (S k).ρ = f _ from same).symm.trans hx)
    obtain ⟨g4, g5⟩ := g3 (φ.add (Nat.add base (q k)) ⟨w.heap.size, 0, 0, M⟩) (Nat.add base (q k)) (Phi.sub_add (v.un k x hk hD hT)) Phi.add_same
    unfold Oper.wp
    unfold Ok at g1
    rw [g1]
    rw [← hv] at g5
    exact hX _ _ _ _ (v.made hbase hk hD hT g2.1 g2.2 g4 g5)
  | eff =>
    rw [hT] at st
    rw [wanted st.1]
    simp only [if_true]
    refine .inl ?_
    obtain ⟨-, -, hwi, hef, -⟩ := st
    have hck : c ≤ k := by
      rcases Nat.lt_or_ge k c with h | h
      · exact absurd ((v.eff k hk hT).2 h) hD
      · exact h
    have hne : ∀ e, c ≤ e → e < k → T e ≠ .eff := fun e h1 h2 h3 => by
      have := effLt e (by omega) h3 (hA e (by omega) (R.effAnc h2 hk h3 (.inl hT)))
      omega
    have hmk : ∀ l x, c ≤ l → l < k → T l = .mk x → D l := fun l x h1 h2 h3 =>
      hA l (by omega) (within_mem hwi _ ((R.psMem v.clean hck (by omega) hne _).2 ⟨l, x, h1, h2, h3, rfl⟩))
    have hlt : ∀ e, e < N → T e = .eff → D e → e < k := fun e h1 h2 h3 => by have := effLt e h1 h2 h3; omega
    have tb := v.full hbase hck (by omega) hne hmk
    have does : Does P G φ (putAll (S k).ps (S k).hs) w a.eval (O k) (V k) (S (k + 1)).hs → (O k).wp P a w X Q := fun hd => by
      obtain ⟨nx, u, w', φ', g1, g2, g3, g4⟩ := hd
      unfold Oper.wp
      unfold Ok at g1
      rw [g1]
      rcases g2 with rfl | ⟨rfl, rfl⟩
      · exact hX _ _ _ _ (v.done s0 hbase hk hck hT hne hmk hlt g3 g4)
      · exact hX _ _ _ _ (v.done s0 hbase hk hck hT hne hmk hlt g3 g4)
    cases hc : comp P G (O k).op with
    | eff f =>
      rw [hc] at same hcomp hef
      exact does (hcomp φ _ _ a.eval _ _ w ev tb.rel ((same _).symm.trans hef))
    | call f =>
      rw [hc] at same hcomp hef
      rcases hef with hef | ⟨g, as, hef, hcall⟩
      · exact does (hcomp φ _ _ a.eval _ w ev tb.rel ((same _).symm.trans hef))
      · obtain ⟨hb, args, g1, g2⟩ := hcomp φ _ _ a.eval _ w ev tb.rel ((same _).symm.trans hef)
        unfold Oper.wp
        unfold Ok at g1
        rw [g1]
        refine (hcf g as _ _ _ hcall hb φ w args tb.rel g2).mono ?_
        rintro e w' ⟨u, φ', rfl, g3, g4⟩
        exact hX _ _ _ _ (v.done s0 hbase hk hck hT hne hmk hlt g3 g4)
    | free f => rw [hc] at hef; exact hef.elim
    | read f => rw [hc] at hef; exact hef.elim
    | mk f => rw [hc] at hef; exact hef.elim
    | alt f => rw [hc] at hef; exact hef.elim
    | no => rw [hc] at hef; exact hef.elim
theorem filter_lt {α : Type} {p p' : α → Bool} : ∀ {l : List α}, (∀ x, p' x = true → p x = true) → (l.filter p').length ≤ (l.filter p).length
  | [], _ => by simp
  | x :: l, h => by
    have ih := filter_lt (l := l) h
    cases h1 : p' x with
    | true => simp only [List.filter_cons, h1, h x h1, if_true, List.length_cons]; omega
    | false =>
      simp only [List.filter_cons, h1, Bool.false_eq_true, if_false]
      cases h2 : p x <;> simp <;> omega
theorem filter_lt' {α : Type} {p p' : α → Bool} {y : α} : ∀ {l : List α}, (∀ x, p' x = true → p x = true) → y ∈ l → p y = true → p' y = false → (l.filter p').length < (l.filter p).length
  | x :: l, h, hy, h1, h2 => by
    rcases List.mem_cons.1 hy with rfl | hy
    · have := filter_lt (l := l) h
      simp only [List.filter_cons, h1, h2, Bool.false_eq_true, if_false, if_true, List.length_cons]
      omega
    · have ih := filter_lt' (l := l) h hy h1 h2
      cases h3 : p' x with
      | true => simp only [List.filter_cons, h3, h x h3, if_true, List.length_cons]; omega
      | false =>
        simp only [List.filter_cons, h3, Bool.false_eq_true, if_false]
        cases h4 : p x <;> simp <;> omega
/-- the end of a drawn region -/
theorem Inv.last (v : Inv R φ0 h0 w0 ds D c φ a w) (hbase : h0.next ≤ base) (hall : ∀ k, k < N → D k) : Tr G φ0 h0 w0 φ (putAll (S N).ps (S N).hs) w ∧ EnvRel n φ (S N).ρ a.tmps := by
  refine ⟨v.full hbase v.cN (Nat.le_refl _) (fun e h1 h2 h3 => ?_) (fun l x h1 h2 _ => hall l h2), v.fsz, fun t b hb => ?_⟩
  · have := (v.eff e h2 h3).1 (hall e h2)
    omega
  · by_cases hw : ∃ l, l < N ∧ (O l).dst = some t
    · obtain ⟨l, hl, hd⟩ := hw
      rw [R.wrote hl (Nat.le_refl _) hd] at hb
      injection hb with hb
      subst hb
      exact v.fwr l t hl (hall l hl) hd
    · rw [R.kept (Nat.le_refl _) (fun l hl hd => hw ⟨l, hl, hd⟩)] at hb
      exact v.fold t b (fun l hl _ hd => hw ⟨l, hl, hd⟩) hb
theorem any_ok (hcf : CfOk P G cf) (s0 : SRel G φ0 h0 w0) (hbase : h0.next ≤ base) {Q : Exit → Act → World → Prop}
    (hQ : ∀ D c φ a w, Inv R φ0 h0 w0 ds D c φ a w → (∀ k, k < N → D k) → Q .normal a w) :
    ∀ (fuel : Nat) (listed : Array Bool) (D : Nat → Prop) (c : Nat) (φ : Phi) (a : Act) (w : World), Inv R φ0 h0 w0 ds D c φ a w → listed.size = ops.size → (∀ k, k < N → (D k ↔ listed.getD (I k) false = true)) →
      (∀ k, k < N → D k → ∀ l, l < N → Nat.testBit (A k) (I l) = true → D l) → ((List.range ops.size).filter fun i => !listed.getD i false).length ≤ fuel → wpAny P .any ops Q fuel listed a w := by
  have isz : ∀ k, k < N → I k < ops.size := fun k hk => (Array.getElem?_eq_some_iff.1 (R.op k hk)).1
  intro fuel
  have gd : ∀ {listed : Array Bool} {i : Nat}, listed.size = ops.size → i < ops.size → listed.getD i true = listed.getD i false := fun {listed i} h1 h2 => by
    simp [Array.getD, h1, h2]
  -- none is ready: all is done
  have none_ready : ∀ {listed : Array Bool} {D : Nat → Prop}, listed.size = ops.size → (∀ k, k < N → (D k ↔ listed.getD (I k) false = true)) → Region.ready .any ops listed = [] → ∀ k, k < N → D k := fun {listed D} hsz hD hr k => by
    induction k using Nat.strongRecOn with
    | _ k ih =>
      intro hk
      rw [hD k hk]
      cases hl : listed.getD (I k) false with
      | true => rfl
      | false =>
        exfalso
        have : I k ∈ Region.ready .any ops listed := by
          unfold Region.ready
          rw [List.mem_filter]
          refine ⟨List.mem_range.2 (isz k hk), ?_⟩
          rw [gd hsz (isz k hk), hl, R.op k hk]
          simp only [Bool.not_false, Bool.true_and, Option.map_some, Option.getD_some, Array.all_eq_true']
          intro e he
          cases hb : Region.binds .any e with
          | false => rfl
          | true =>
            obtain ⟨l, hl, hle⟩ := R.before k hk _ (R.edge k hk e he hb)
            have := (hD l (by omega)).1 (ih l hl (by omega))
            rw [hle] at this
            rw [this]
            rfl
        rw [hr] at this
        simp at this
  induction fuel with
  | zero =>
    intro listed D c φ a w v hsz hD hcl hf
    have hall : ∀ k, k < N → D k := fun k hk => by
      rw [hD k hk]
      cases hl : listed.getD (I k) false with
      | true => rfl
      | false =>
        have : I k ∈ (List.range ops.size).filter fun i => !listed.getD i false := List.mem_filter.2 ⟨List.mem_range.2 (isz k hk), by rw [hl]; rfl⟩
        rw [List.length_eq_zero_iff.1 (Nat.le_zero.1 hf)] at this
        simp at this
    refine ⟨?_, hQ D c φ a w v hall⟩
    cases hr : Region.ready .any ops listed with
    | nil => rfl
    | cons i l =>
      exfalso
      have hi : i ∈ Region.ready .any ops listed := by rw [hr]; simp
      unfold Region.ready at hi
      rw [List.mem_filter] at hi
      have hlt := List.mem_range.1 hi.1
      obtain ⟨k, hk, rfl⟩ := R.onto i hlt
      have h2 := hi.2
      rw [gd hsz hlt, (hD k hk).1 (hall k hk)] at h2
      simp at h2
  | succ fuel ih =>
    intro listed D c φ a w v hsz hD hcl hf
    refine ⟨fun hr => hQ D c φ a w v (none_ready hsz hD hr), fun i hi => ?_⟩
    unfold Region.ready at hi
    rw [List.mem_filter] at hi
    obtain ⟨hlt, hi⟩ := hi
    have hlt := List.mem_range.1 hlt
    obtain ⟨k, hk, rfl⟩ := R.onto i hlt
    rw [gd hsz hlt, R.op k hk, Bool.and_eq_true] at hi
    obtain ⟨h1, h2⟩ := hi
    have h1 : listed.getD (I k) false = false := by simpa using h1
    have hnD : ¬ D k := fun h => by rw [(hD k hk).1 h] at h1; cases h1
    have edges : ∀ e ∈ (O k).after, Region.binds .any e = true → listed.getD e.on false = true := fun e he hb => by
      simp only [Option.map_some, Option.getD_some, Array.all_eq_true'] at h2
      have := h2 e he
      rw [hb] at this
      simpa using this
    have hA : ∀ l, l < N → Nat.testBit (A k) (I l) = true → D l := fun l hl hb => by
      obtain ⟨e, he, hbe, h⟩ := R.anc k hk _ hb
      have hon := edges e he hbe
      rcases h with h | ⟨m, hm, hme, hmb⟩
      · rw [hD l hl, ← h]; exact hon
      · exact hcl m hm ((hD m hm).2 (by rw [hme]; exact hon)) l hl hmb
    refine v.step hcf s0 hbase hcl hk hnD hA ?_
    intro c' φ' a' w' v'
    have hset : ∀ i, (listed.setIfInBounds (I k) true).getD i false = if i = I k then true else listed.getD i false := fun i => by
      simp only [Array.getD_eq_getD_getElem?, Array.getElem?_setIfInBounds]
      by_cases e : I k = i
      · subst e; simp [hsz, hlt]
      · rw [if_neg e, if_neg (fun h => e h.symm)]
    refine ih _ _ c' φ' a' w' v' (by simpa using hsz) ?_ ?_ ?_
    · intro l hl
      rw [hset]
      by_cases e : l = k
      · subst e; simp
      · rw [if_neg (fun h => e (R.inj l k hl hk h)), ← hD l hl]
        exact ⟨fun h => h.resolve_right e, .inl⟩
    · rintro l hl (h | rfl) m hm hb
      · exact .inl (hcl l hl h m hm hb)
      · exact .inl (hA m hm hb)
    · have := filter_lt' (p := fun i => !listed.getD i false) (p' := fun i => !(listed.setIfInBounds (I k) true).getD i false) (y := I k) (l := List.range ops.size)
        (fun i h => by
          rw [hset] at h
          by_cases e : i = I k
          · rw [if_pos e] at h; simp at h
          · rw [if_neg e] at h; exact h) (List.mem_range.2 hlt) (by rw [h1]; rfl) (by rw [hset, if_pos rfl]; rfl)
      omega
end
section
variable {P : Program} {G : Nat}
theorem Tr.reserve {φ : Phi} {h h' : Hp} {w : World} (s : SRel G φ h w) (e : h'.get = h.get) (en : h.next ≤ h'.next) (el : h'.log = h.log) : Tr G φ h w φ h' w :=
  ⟨.refl _, ⟨by rw [e]; exact s.heap, fun b p hp => Nat.lt_of_lt_of_le (s.lt b p hp) en, s.glob, s.olo⟩, en, fun _ e1 e2 => absurd e1 e2, Nat.le_refl _, fun _ _ _ => rfl, fun b x _ hb _ => .inl ⟨x, by rw [← e]; exact hb⟩, ⟨fun b hb => by rw [el]; exact hb, fun b _ => by rw [e]⟩, .refl w⟩
/-- a drawn region, said right -/
theorem draw_ok (hm : P.follows .mixedOrders = true) {n : Nat} {cf : CallF} (hcf : CfOk P G cf) {id : Nat} {ops : Array Oper} (hp : planOk P G ops = true) : SemOk P G n (evalDraw P G n cf ops) (.region id ops true) := by
  intro K Q φ ρ h w a hh r s hq
  obtain ⟨B, m, TT⟩ := h
  have hh : (frc (Nat.add m (DI.count (planA P G ops))) fun m' => goDraw n cf m (planA P G ops) ρ (.mk B m' TT) [] [] 0).all K := hh
  rw [frc_eq] at hh
  obtain ⟨N, S, I, A, q, O, T, V, R, h0, hK⟩ := plan_run (s := ⟨ρ, .mk B (Nat.add m (DI.count (planA P G ops))) TT, [], [], 0⟩) hp hh
  refine wp_region_any hm ?_
  have s1 : SRel G φ (.mk B m TT) { w with drawn := w.drawn + 1 } := s.of_heap rfl
  refine any_ok (R := R) (φ0 := φ) (h0 := .mk B m TT) (w0 := { w with drawn := w.drawn + 1 }) (ds := a.defers) hcf s1 (Nat.le_refl _) ?_ _ _ (fun _ => False) 0 φ a _ ?_ (by simp) ?_ ?_ ?_
  · intro D c φ' a' w' v hall
    obtain ⟨t, e⟩ := v.last (Nat.le_refl _) hall
    exact hq .nrm _ _ φ' a' w' hK (t.from_heap rfl) e v.dfr
  · refine ⟨by omega, by rw [h0], fun k _ _ => ⟨False.elim, fun h => absurd h (by omega)⟩, fun k hk => absurd hk (by omega), ?_, by rw [h0]; exact Nat.le_refl _, fun _ _ _ _ h => h.elim, fun _ _ _ _ _ _ _ _ _ _ h => h.elim, ?_, r.1, fun _ _ _ h => h.elim, ?_, rfl⟩
    · rw [h0]
      exact Tr.reserve s1 rfl (Nat.le_add_right _ _) rfl
    · intro k x hk _ _
      cases hφ : φ (Nat.add m (q k)) with
      | none => rfl
      | some p =>
        have := s.lt _ _ hφ
        have : m + q k < m := this
        omega
    · intro t v _ hv
      rw [h0] at hv
      exact r.2 t v hv
  · intro k hk
    simp [Array.getD]
  · intro k _ h
    exact h.elim
  · refine Nat.le_trans (List.length_filter_le _ _) (by simp)
end
end
section
noncomputable def codeOk (P : Program) (G : Nat) (c : Code) : Bool :=
  Code.rec (motive := fun _ => Bool) true
    (fun _ ops draw => match draw with
      | false => true
      | true => planOk P G ops)
    (fun _ _ a b => match a with | true => b | false => false)
    (fun _ _ _ a b => match a with | true => b | false => false)
    (fun _ _ b => b)
    (fun _ b => b)
    (fun _ _ _ _ _ _ => true)
    (fun _ => true)
    (fun _ b => b)
    (fun _ => true)
    (fun _ => true)
    true
    (fun _ => true) c
section
variable {P : Program} {G : Nat}
theorem codeOk_and {a b : Bool} (h : (match a with | true => b | false => false) = true) : a = true ∧ b = true := by
  cases a <;> first | exact ⟨rfl, h⟩ | cases h
theorem den_ok (hm : P.follows .mixedOrders = true) {n : Nat} {cf : CallF} (hcf : CfOk P G cf) : ∀ c : Code, codeOk P G c = true → SemOk P G n (den P G n cf c) c
  | .skip => fun hc K Q φ ρ h w a hh r s hq => wp_skip (hq .nrm ρ h φ a w hh (Tr.refl s) r rfl)
  | .label l => fun hc K Q φ ρ h w a hh r s hq => wp_label (hq .nrm ρ h φ a w hh (Tr.refl s) r rfl)
  | .exit id => fun hc K Q φ ρ h w a hh r s hq => wp_exit (hq (.exit id) ρ h φ a w hh (Tr.refl s) r rfl)
  | .goto l => fun hc K Q φ ρ h w a hh r s hq => wp_goto (hq (.goto l) ρ h φ a w hh (Tr.refl s) r rfl)
  | .ret => fun hc K Q φ ρ h w a hh r s hq => wp_ret (hq .ret ρ h φ a w hh (Tr.refl s) r rfl)
  | .refuse _ => fun hc K Q φ ρ h w a hh r s hq => hh.elim
  | .rangeFunc .. => fun hc K Q φ ρ h w a hh r s hq => hh.elim
  | .seq a b => fun hc => SemOk.seq (den_ok hm hcf a (codeOk_and hc).1) (den_ok hm hcf b (codeOk_and hc).2)
  | .loop b => fun hc => SemOk.loop (den_ok hm hcf b hc) 1000000
  | .cond x a b => fun hc K Q φ ρ h w ac hh r s hq => by
    have hh : (match rd G ρ x with
      | some (.bool t) => match t with
        | true => den P G n cf a ρ h
        | false => den P G n cf b ρ h
      | _ => .no).all K := hh
    split at hh
    · rename_i t hx
      have hv := r.ev s _ _ hx
      simp only [RelV] at hv
      cases t with
      | true => exact wp_cond_true hv (den_ok hm hcf a (codeOk_and hc).1 K Q φ ρ h w ac hh r s hq)
      | false => exact wp_cond_false hv (den_ok hm hcf b (codeOk_and hc).2 K Q φ ρ h w ac hh r s hq)
    · exact hh.elim
  | .block id b => fun hc K Q φ ρ h w a hh r s hq => by
    refine wp_block (den_ok hm hcf b hc _ _ φ ρ h w a (blockR_all hh) r s ?_)
    intro e ρ' h' φ' a' w' hk t r' hd
    cases e with
    | exit i =>
      show if i = id then Q .normal a' w' else Q (.exit i) a' w'
      have hk : if i = id then K .nrm ρ' h' else K (.exit i) ρ' h' := hk
      by_cases e : i = id
      · rw [if_pos e] at hk ⊢; exact hq .nrm ρ' h' φ' a' w' hk t r' hd
      · rw [if_neg e] at hk ⊢; exact hq (.exit i) ρ' h' φ' a' w' hk t r' hd
    | nrm => exact hq .nrm ρ' h' φ' a' w' hk t r' hd
    | goto l => exact hq (.goto l) ρ' h' φ' a' w' hk t r' hd
    | ret => exact hq .ret ρ' h' φ' a' w' hk t r' hd
  | .scope b => fun hc K Q φ ρ h w a hh r s hq => by
    refine wp_scope_straight (den_ok hm hcf b hc _ _ φ ρ h w a (scopeR_all hh) r s ?_)
    intro e ρ' h' φ' a' w' hk t r' hd
    cases e with
    | goto l => exact hk.elim
    | exit i => exact hq (.exit i) ρ' h' φ' a' w' hk t r' hd
    | nrm => exact hq .nrm ρ' h' φ' a' w' hk t r' hd
    | ret => exact hq .ret ρ' h' φ' a' w' hk t r' hd
  | .region id ops draw => by
    intro hc
    cases draw with
    | true => exact draw_ok hm hcf hc
    | false =>
      intro K Q φ ρ h w a hh r s hq
      refine wp_region ?_
      refine evalOps_ok hcf ?_ hh r s hq
      apply List.ext_getElem?
      intro i
      simp only [List.getElem?_map]
      by_cases hi : i < ops.size
      · rw [List.getElem?_range hi]; simp [hi]
      · rw [List.getElem?_eq_none (by simp; omega), List.getElem?_eq_none (by simp; omega)]; simp
end
end
section
section
variable {P : Program} {G : Nat}
theorem ends_all {fn : Func} : ∀ {r : Res} {l : List (AV × Hp)}, ends P fn r = some l → r.all (fun e ρ h => (e = .nrm ∨ e = .ret) ∧ ∃ v, retA P fn ρ h = some v ∧ (v, h) ∈ l)
  | .no, l, hh => by have : (none : Option (List (AV × Hp))) = some l := hh; cases this
  | .one e ρ h, l, hh => by
    have hh : endOne P fn e ρ h = some l := hh
    unfold endOne at hh
    split at hh
    · split at hh
      · rename_i v hv
        injection hh with hh
        subst hh
        exact ⟨.inl rfl, v, hv, by simp⟩
      · cases hh
    · split at hh
      · rename_i v hv
        injection hh with hh
        subst hh
        exact ⟨.inr rfl, v, hv, by simp⟩
      · cases hh
    · cases hh
  | .alt a b, l, hh => by
    have hh : (match ends P fn a with
      | some a => match ends P fn b with
        | some b => some (a ++ b)
        | none => none
      | none => none) = some l := hh
    split at hh
    · rename_i la ha
      split at hh
      · rename_i lb hb
        injection hh with hh
        subst hh
        refine ⟨Res.all_mono ?_ (ends_all ha), Res.all_mono ?_ (ends_all hb)⟩
        · rintro e ρ h ⟨h1, v, h2, h3⟩; exact ⟨h1, v, h2, List.mem_append.2 (.inl h3)⟩
        · rintro e ρ h ⟨h1, v, h2, h3⟩; exact ⟨h1, v, h2, List.mem_append.2 (.inr h3)⟩
      · cases hh
    · cases hh
def ret1S (tm : Array Value) : ResultVar → Sem Value
  | .tmp t => pure (tm.getD t undef)
  | .cell a t => do loadVar t (← asAddr (tm.getD a undef))
theorem ret1_ok {n φ ρ h w} {tm : Array Value} (r : EnvRel n φ ρ tm) (s : SRel G φ h w) {x : ResultVar} {v : AV} (hh : ret1 P x ρ h = some v) : ∃ u, Ok P (ret1S tm x) w u w ∧ RelV φ v u := by
  unfold ret1 at hh
  split at hh
  · rename_i t
    obtain ⟨u, h1, h2⟩ := r.2 t v hh
    refine ⟨u, ?_, h2⟩
    have : tm.getD t undef = u := by simp [h1]
    show Ok P (pure (tm.getD t undef)) w u w
    rw [this]
    exact Ok.pure
  · rename_i a t
    split at hh
    · rename_i b off hb
      obtain ⟨u, h1, h2⟩ := r.2 a _ hb
      simp only [RelV] at h2
      obtain ⟨p, hp, hlo, rfl⟩ := h2
      obtain ⟨v', g1, g2⟩ := loadVar_ok (P := P) s hp hlo hh
      refine ⟨v', ?_, g2⟩
      have : tm.getD a undef = .pointer (some ⟨p.B, p.o + (off - p.lo), none⟩) := by simp [h1]
      show Ok P (do loadVar t (← asAddr (tm.getD a undef))) w v' w
      rw [this]
      exact (Ok.pure : Ok P (Pure.pure _) w _ w).bind g1
    · cases hh
theorem retL_ok {n φ ρ h w} {tm : Array Value} (r : EnvRel n φ ρ tm) (s : SRel G φ h w) : ∀ {l : List ResultVar} {vs : List AV}, retL P l ρ h = some vs → ∃ us, Ok P (l.mapM (ret1S tm)) w us w ∧ RelL φ vs us
  | [], vs, hh => by
    have : some [] = some vs := hh
    injection this with this
    subst this
    exact ⟨[], by simp only [List.mapM_nil]; exact Ok.pure, by simp⟩
  | x :: l, vs, hh => by
    have hh : (match ret1 P x ρ h with
      | some v => match retL P l ρ h with
        | some r => some (v :: r)
        | none => none
      | none => none) = some vs := hh
    split at hh
    · rename_i v hv
      split at hh
      · rename_i rs hrs
        injection hh with hh
        subst hh
        obtain ⟨u, g1, g2⟩ := ret1_ok r s hv
        obtain ⟨us, g3, g4⟩ := retL_ok r s hrs
        refine ⟨u :: us, ?_, relL_cons_cons.2 ⟨g2, g4⟩⟩
        simp only [List.mapM_cons]
        exact g1.bind (g3.bind Ok.pure)
      · cases hh
    · cases hh
theorem retA_ok {n φ ρ h w} {fn : Func} {tm : Array Value} (r : EnvRel n φ ρ tm) (s : SRel G φ h w) {v : AV} (hh : retA P fn ρ h = some v) : ∃ u, (results fn tm).run P w = .ok u w ∧ RelV φ v u := by
  unfold retA at hh
  split at hh
  · rename_i l hl
    obtain ⟨us, g1, g2⟩ := retL_ok (P := P) r s hl
    have hm : Ok P (fn.results.mapM (ret1S tm)) w us.toArray w := by
      rw [Array.mapM_eq_mapM_toList]
      exact g1.map
    have hres : ∀ {u : Value}, (if h : us.toArray.size = 1 then us.toArray[0] else .tuple us.toArray) = u → (results fn tm).run P w = .ok u w := fun {u} hu => by
      have h1 : results fn tm = (fn.results.mapM (ret1S tm) >>= fun vs => pure (if h : vs.size = 1 then vs[0] else .tuple vs)) := by
        unfold results
        congr 1
      rw [h1]
      have := hm.bind (f := fun vs : Array Value => (pure (if h : vs.size = 1 then vs[0] else .tuple vs) : Sem Value)) (Ok.pure (P := P) (w := w))
      rw [← hu]
      exact this
    split at hh
    · rename_i v1
      injection hh with hh
      subst hh
      obtain ⟨u, us', rfl, g3, g4⟩ := relL_cons.1 g2
      rw [relL_nil] at g4
      subst g4
      exact ⟨u, hres (by simp), g3⟩
    · rename_i hne
      injection hh with hh
      subst hh
      refine ⟨.tuple us.toArray, hres ?_, by simp only [RelV]; exact ⟨_, rfl, g2⟩⟩
      rw [dif_neg]
      intro hc
      have hc' : us.length = 1 := by simpa using hc
      have := g2.length
      rw [hc'] at this
      match l, this with
      | [x], _ => exact hne x rfl
  · cases hh
/-- merged calls, said right -/
structure MergeOk (P : Program) (G : Nat) (cfg : Cfg) : Prop where
  get : ∀ h, (cfg.open_ h).get = h.get
  next : ∀ h, (cfg.open_ h).next = h.next
  merge : ∀ h l v hx, cfg.merge h l = some (v, hx) → ∀ φ w, SRel G φ h w → ∀ x ∈ l, ∀ φ' w' u, Tr G φ (cfg.open_ h) w φ' x.2 w' → RelV φ' x.1 u → ∃ φ'', Tr G φ h w φ'' hx w' ∧ RelV φ'' v u
  summ : ∀ f s, cfg.summ f = some s → ∀ as h v h', s as h = some (v, h') → ∀ φ w (args : Array Value), SRel G φ h w → RelL φ as args.toList →
    Calls P f args w fun e w' => ∃ u φ', e = .returned u ∧ Tr G φ h w φ' h' w' ∧ RelV φ' v u
theorem env_enter {n : Nat} {φ : Phi} {as : List AV} {args : Array Value} (hr : RelL φ as args.toList) : EnvRel n φ (mkRow as 0 .lf) (args ++ Array.replicate (n - args.size) undef) := by
  have hl : args.size = as.length := by simpa using hr.length
  refine ⟨by simp; omega, fun t a ha => ?_⟩
  rw [mkRow_get] at ha
  by_cases h1 : 0 ≤ t ∧ t < 0 + as.length
  · rw [if_pos h1] at ha
    obtain ⟨v, g1, g2⟩ := hr.get ha
    refine ⟨v, ?_, g2⟩
    have hlt : t < args.size := by omega
    rw [Array.getElem?_append_left hlt]
    simpa using g1
  · rw [if_neg h1] at ha
    simp at ha
/-- every functions regions are in order -/
def FuncsOk (P : Program) (G : Nat) : Prop := ∀ (f : FuncId) (fn : Func) (c : Code), P.funcs[f]? = some fn → fn.body = some c → codeOk P G c = true
theorem callN_ok (hx : P.follows .mixedOrders = true) (hf : FuncsOk P G) {cfg : Cfg} (hm : MergeOk P G cfg) : ∀ fuel, CfOk P G (callN P G cfg fuel)
  | 0 => fun f as h v h' hh => by have : (none : Option (AV × Hp)) = some (v, h') := hh; cases this
  | fuel + 1 => by
    intro f as h v h' hh _ φ w args s hr
    have hh : (match sumA cfg f as h with
      | some r => some r
      | none => bodyA P G cfg (callN P G cfg fuel) f as h) = some (v, h') := hh
    split at hh
    · rename_i r hsm
      injection hh with hh
      subst hh
      unfold sumA at hsm
      split at hsm
      · rename_i sm hs
        exact hm.summ f sm hs as h v h' hsm φ w args s hr
      · cases hsm
    · unfold bodyA at hh
      split at hh
      · rename_i fn hfn
        split at hh
        · rename_i c hc
          have henv := env_enter (n := fn.ntmps) hr
          have hden := den_ok hx (callN_ok hx hf hm fuel) (n := fn.ntmps) c (hf f fn c hfn hc)
          split at hh
          · rw [PT.frc_eq] at hh
            split at hh
            · rename_i x hx
              injection hh with hh
              subst hh
              refine calls_of_wp hfn hc (hden _ _ φ _ h w _ (ends_all hx) henv s ?_)
              rintro e ρ' h'' φ' a' w' ⟨he, v', hv', hmem⟩ t r' hd
              rw [List.mem_singleton] at hmem
              injection hmem with e1 e2
              subst e1 e2
              obtain ⟨u, g1, g2⟩ := retA_ok (P := P) r' t.rel hv'
              rcases he with rfl | rfl
              · exact ⟨hd, u, g1, u, φ', rfl, t, g2⟩
              · exact ⟨hd, u, g1, u, φ', rfl, t, g2⟩
            · cases hh
          · rw [PT.frc_eq, Hp.frcH_eq] at hh
            split at hh
            · rename_i l hx
              have so : SRel G φ (cfg.open_ h) w := s.of_get (hm.get h) (hm.next h)
              refine calls_of_wp hfn hc (hden _ _ φ _ _ w _ (ends_all hx) henv so ?_)
              rintro e ρ' h'' φ' a' w' ⟨he, v', hv', hmem⟩ t r' hd
              obtain ⟨u, g1, g2⟩ := retA_ok (P := P) r' t.rel hv'
              obtain ⟨φ'', k1, k2⟩ := hm.merge h l v h' hh φ w s _ hmem φ' w' u t g2
              rcases he with rfl | rfl
              · exact ⟨hd, u, g1, u, φ'', rfl, k1, k2⟩
              · exact ⟨hd, u, g1, u, φ'', rfl, k1, k2⟩
            · cases hh
        · cases hh
      · cases hh
end
end
end Go.Ev
