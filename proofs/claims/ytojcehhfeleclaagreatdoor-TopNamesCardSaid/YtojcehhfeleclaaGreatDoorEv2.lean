/-
  Operations that make and change blocks; regions, code, loops. No condition.
-/
import Derived.Test.YtojcehhfeleclaaGreatDoorEv1
import Derived.Lib.Bytealg
import Derived.Lib.MakeNoZero
import Derived.Orders
import Derived.Scope
namespace Go.Ev
section
noncomputable def mkRow (as : List AV) : Nat → PT AV → PT AV :=
  List.rec (motive := fun _ => Nat → PT AV → PT AV) (fun _ cs => cs)
    (fun a _ ih i cs => frc (Nat.add i 1) fun i' => (cs.set (some a) (Ps.of i)).frc fun cs' => ih i' cs') as
theorem mkRow_cons (a : AV) (as : List AV) (i : Nat) (cs : PT AV) : mkRow (a :: as) i cs = mkRow as (i + 1) (cs.set (some a) (Ps.of i)) := by
  show frc (Nat.add i 1) (fun i' => (cs.set (some a) (Ps.of i)).frc fun cs' => mkRow as i' cs') = _
  rw [frc_eq, PT.frc_eq]
theorem mkRow_get : ∀ (as : List AV) (i : Nat) (cs : PT AV) (j : Nat), (mkRow as i cs).get (Ps.of j) = if i ≤ j ∧ j < i + as.length then as[j - i]? else cs.get (Ps.of j)
  | [], i, cs, j => by
    have : mkRow [] i cs = cs := rfl
    rw [this, if_neg (by simp <;> omega)]
  | a :: as, i, cs, j => by
    rw [mkRow_cons, mkRow_get as (i + 1), PT.get_set_of]
    by_cases h1 : j = i
    · subst h1
      rw [if_neg (by omega), if_pos rfl, if_pos (by simp)]
      simp
    · rw [if_neg h1]
      by_cases h2 : i + 1 ≤ j ∧ j < i + 1 + as.length
      · rw [if_pos h2, if_pos (by simp; omega), show j - i = (j - (i + 1)) + 1 by omega]
        simp
      · rw [if_neg h2, if_neg (by simp; omega)]
noncomputable def rowOf (e : TypeId) (as : List AV) : Blk := frc as.length fun n => (mkRow as 0 .lf).frc fun t => .row e 0 n [] t
theorem rowOf_eq (e : TypeId) (as : List AV) : rowOf e as = .row e 0 as.length [] (mkRow as 0 .lf) := by
  unfold rowOf; rw [frc_eq, PT.frc_eq]
theorem cellA_mkRow {as : List AV} {i : Nat} {a : AV} (h : cellA [] 0 as.length (mkRow as 0 .lf) i = some a) : as[i]? = some a := by
  obtain ⟨h1, h2⟩ := cellA_bounds h
  unfold cellA at h
  rw [mkRow_get, if_pos ⟨Nat.zero_le _, by omega⟩] at h
  have e1 : Nat.ble 0 i = true := by simp
  have e2 : Nat.blt i as.length = true := by simpa [Nat.blt] using Nat.succ_le_of_lt h2
  simp only [e1, e2, Nat.sub_zero] at h
  rw [List.getElem?_eq_getElem h2] at h ⊢
  exact h
section
variable {P : Program} {G : Nat} {φ : Phi} {h : Hp} {w : World} {ρ : PT AV} {ev : Operand → Value}
/-- an operation that makes one block -/
def Makes (P : Program) (φ : Phi) (w : World) (ev : Operand → Value) (o : Oper) (x : Blk) (f : Nat → AV) : Prop :=
  ∃ v w' ob N, Ok P (execOp ev o) w (.value v) w' ∧ (w'.heap = w.heap.push ob ∧ Env w w') ∧ ∀ (φ' : Phi) n, φ.sub φ' → φ' n = some ⟨w.heap.size, 0, 0, N⟩ → RelO φ' x ob ⟨w.heap.size, 0, 0, N⟩ ∧ RelV φ' (f n) v
theorem rel_rowOf {as : List AV} {vs : Array Value} {e : TypeId} (hr : RelL φ as vs.toList) {B : Nat} {fz : Nat × Nat} {tail : Array Value} (hfz : ∀ k, k < (vs ++ tail).size → ¬(fz.1 ≤ k ∧ k < fz.2)) :
    RelO φ (rowOf e as) (.cells (vs ++ tail) e fz) ⟨B, 0, 0, (vs ++ tail).size⟩ := by
  rw [rowOf_eq]
  have hl : vs.size = as.length := by simpa using hr.length
  refine ⟨rfl, vs ++ tail, fz, rfl, rfl, by simp; omega, ?_, hfz⟩
  intro i a hi
  obtain ⟨v, h1, h2⟩ := hr.get (cellA_mkRow hi)
  refine ⟨v, ?_, h2⟩
  have h1' : vs[i]? = some v := by simpa using h1
  have hlt : i < vs.size := (Array.getElem?_eq_some_iff.1 h1').1
  simp only [Nat.zero_add, Nat.sub_zero]
  rw [Array.getElem?_append_left hlt]
  exact h1'
theorem ok_newRow {e : TypeId} {cs : Array Value} : Ok P (newRow e cs) w ⟨w.heap.size, 0, none⟩ { w with heap := w.heap.push (.cells cs e) } := rfl
theorem no_frozen (n : Nat) : ∀ k, k < n → ¬((0, 0) : Nat × Nat).1 ≤ k ∨ ¬(k < ((0, 0) : Nat × Nat).2) := fun k _ => .inr (by simp)
theorem rel_ptr {φ' : Phi} {n N B : Nat} (hp : φ' n = some ⟨B, 0, 0, N⟩) : RelV φ' (.ptr n 0) (.pointer (some ⟨B, 0, none⟩)) := by
  simp only [RelV]; exact ⟨_, hp, Nat.le_refl _, rfl⟩

noncomputable def mkBox (G : Nat) (e : TypeId) (x : Operand) (ρ : PT AV) : Option (Blk × (Nat → AV)) := match rd G ρ x with
  | some a => some (rowOf e (cells a), fun n => .ptr n 0)
  | none => none
theorem mkBox_ok (e : EvRel G φ ρ ev) {o : Oper} {el x b f} (ho : o.op = .box el x) (hh : mkBox G el x ρ = some (b, f)) : Makes P φ w ev o b f := by
  unfold mkBox at hh
  split at hh
  · rename_i a hx
    simp only [Option.some.injEq, Prod.mk.injEq] at hh
    obtain ⟨rfl, rfl⟩ := hh
    have hr := cells_rel (e _ _ hx)
    refine ⟨.pointer (some ⟨w.heap.size, 0, none⟩), { w with heap := w.heap.push (.cells (ev x).cells el) }, .cells (ev x).cells el, (ev x).cells.size, ?_, ⟨rfl, rfl, rfl, rfl⟩, ?_⟩
    · simp only [execOp, ho]
      exact Ok.bind (s := Instr.box el (ev x)) (Ok.bind (s := newVar el (ev x)) ok_newRow Ok.pure) Ok.pure
    · intro φ' n hs hn
      refine ⟨?_, rel_ptr hn⟩
      have := rel_rowOf (e := el) (fz := (0, 0)) (tail := #[]) (B := w.heap.size) (hr.mono hs) (fun k _ => by simp)
      simpa using this
  · cases hh
noncomputable def mkAlloc (P : Program) (e : TypeId) : Option (Blk × (Nat → AV)) := match zeroA P e with
  | some z => frc z.length fun n => some (.row e 0 n z .lf, fun n => .ptr n 0)
  | none => none
theorem zeroA_ok {e : TypeId} {z : List AV} (hh : zeroA P e = some z) : ∃ zv, Ok P (zeroValue e) w zv w ∧ RelL φ z zv.cells.toList := by
  unfold zeroA at hh
  split at hh
  · rename_i i hi
    split at hh
    · rename_i zv hz
      refine ⟨zv, (Ok.typeInfo hi).bind ?_, ofLeaves_rel hh⟩
      rw [hz]
      exact Ok.pure
    · cases hh
  · cases hh
theorem cellA_lf {z : List AV} {n i : Nat} {a : AV} (h : cellA z 0 n .lf i = some a) : i < n ∧ z[i % z.length]? = some a := by
  obtain ⟨-, h2⟩ := cellA_bounds h
  refine ⟨h2, ?_⟩
  unfold cellA at h
  have e1 : Nat.ble 0 i = true := by simp
  have e2 : Nat.blt i n = true := by simpa [Nat.blt] using Nat.succ_le_of_lt h2
  simp only [e1, e2, PT.get_lf, nth_eq] at h
  exact h
theorem mkAlloc_ok {o : Oper} {el b f} (ho : o.op = .alloc el) (hh : mkAlloc P el = some (b, f)) : Makes P φ w ev o b f := by
  unfold mkAlloc at hh
  split at hh
  · rename_i z hz
    rw [frc_eq] at hh
    simp only [Option.some.injEq, Prod.mk.injEq] at hh
    obtain ⟨rfl, rfl⟩ := hh
    obtain ⟨zv, h1, -⟩ := zeroA_ok (w := w) (φ := φ) hz
    refine ⟨.pointer (some ⟨w.heap.size, 0, none⟩), { w with heap := w.heap.push (.cells zv.cells el) }, .cells zv.cells el, zv.cells.size, ?_, ⟨rfl, rfl, rfl, rfl⟩, ?_⟩
    · simp only [execOp, ho]
      refine Ok.bind (s := Instr.alloc el true (.tuple #[])) ?_ Ok.pure
      unfold Instr.alloc
      exact h1.bind (Ok.bind (s := newVar el zv) ok_newRow Ok.pure)
    · intro φ' n hs hn
      refine ⟨?_, rel_ptr hn⟩
      obtain ⟨zv', h1', hr⟩ := zeroA_ok (P := P) (w := w) (φ := φ') hz
      have : zv' = zv := by unfold Ok at h1 h1'; rw [h1] at h1'; injection h1' with e; exact e.symm
      subst this
      have hl : zv'.cells.size = z.length := by simpa using hr.length
      refine ⟨rfl, zv'.cells, (0, 0), rfl, rfl, by simp; omega, ?_, fun k _ => by simp⟩
      intro i a hi
      obtain ⟨hlt, ha⟩ := cellA_lf hi
      rw [Nat.mod_eq_of_lt hlt] at ha
      obtain ⟨v, h1, h2⟩ := hr.get ha
      exact ⟨v, by simpa using h1, h2⟩
  · cases hh
/-- zeros, one element behind the other -/
noncomputable def repA (z : List AV) (n : Nat) : List AV := Nat.rec (motive := fun _ => List AV) [] (fun _ ih => z ++ ih) n
theorem repA_len (z : List AV) : ∀ n, (repA z n).length = n * z.length
  | 0 => by show ([] : List AV).length = 0 * z.length; simp
  | n + 1 => by
    have : repA z (n + 1) = z ++ repA z n := rfl
    rw [this, List.length_append, repA_len z n, Nat.add_mul]; omega
theorem repA_get (z : List AV) : ∀ n i, i < n * z.length → (repA z n)[i]? = z[i % z.length]?
  | 0, i, h => by simp at h
  | n + 1, i, h => by
    have : repA z (n + 1) = z ++ repA z n := rfl
    rw [this]
    by_cases hi : i < z.length
    · rw [List.getElem?_append_left hi, Nat.mod_eq_of_lt hi]
    · rw [List.getElem?_append_right (by omega), repA_get z n (i - z.length) (by rw [Nat.add_mul] at h; omega)]
      have h3 : i % z.length = (i - z.length) % z.length := by
        conv => lhs; rw [show i = (i - z.length) + z.length by omega]
        rw [Nat.add_mod_right]
      rw [h3]
theorem repA_rel {z : List AV} {zc : Array Value} (hr : RelL φ z zc.toList) : ∀ n, RelL φ (repA z n) ((Array.range (n * zc.size)).map (zc[· % zc.size]!)).toList
  | 0 => by show RelL φ [] _; simp
  | n + 1 => by
    have hzl : zc.size = z.length := by simpa using hr.length
    have h1 : repA z (n + 1) = z ++ repA z n := rfl
    rw [h1]
    have h2 : ((Array.range ((n + 1) * zc.size)).map (zc[· % zc.size]!)).toList = zc.toList ++ ((Array.range (n * zc.size)).map (zc[· % zc.size]!)).toList := by
      apply List.ext_getElem?
      intro i
      by_cases hi : i < zc.size
      · rw [List.getElem?_append_left (by simpa using hi)]
        have : i < (n + 1) * zc.size := by rw [Nat.add_mul]; omega
        simp [this, Nat.mod_eq_of_lt hi, getElem!_pos, hi]
      · rw [List.getElem?_append_right (by simp; omega)]
        simp only [Array.toList_map, Array.toList_range, List.getElem?_map, Array.length_toList]
        by_cases hk : i < (n + 1) * zc.size
        · have hk2 : i - zc.size < n * zc.size := by rw [Nat.add_mul] at hk; omega
          rw [List.getElem?_range hk, List.getElem?_range hk2]
          have h3 : i % zc.size = (i - zc.size) % zc.size := by
            conv => lhs; rw [show i = (i - zc.size) + zc.size by omega]
            rw [Nat.add_mod_right]
          simp [h3]
        · have hk2 : ¬ i - zc.size < n * zc.size := by rw [Nat.add_mul] at hk; omega
          rw [List.getElem?_eq_none (by simp; omega), List.getElem?_eq_none (by simp; omega)]
    rw [h2]
    exact hr.append (repA_rel hr n)
def slT (P : Program) (t : TypeId) : Option (TypeId × Nat) := match P.underlying t with
  | some (.slice e) => match tsize P e with | some s => some (e, s) | none => none
  | _ => none
theorem slT_ok {t e : TypeId} {s : Nat} (hh : slT P t = some (e, s)) : P.underlying t = some (.slice e) ∧ tsize P e = some s := by
  unfold slT at hh
  split at hh
  · rename_i e' hu
    split at hh
    · rename_i s' hs
      simp only [Option.some.injEq, Prod.mk.injEq] at hh
      obtain ⟨rfl, rfl⟩ := hh
      exact ⟨hu, hs⟩
    · cases hh
  · cases hh
noncomputable def mkBuildSlice (P : Program) (G : Nat) (t : TypeId) (len : Nat) (parts : Array (Nat × Operand)) (ρ : PT AV) : Option (Blk × (Nat → AV)) := match slT P t with
  | some (e, s) => match zeroA P e with
    | some z => match rdAll G ρ (parts.toList.map (·.2)) with
      | some as => match Nat.beq s z.length && (Nat.ble 1 (Nat.mul len s) && Nat.ble (Nat.mul len s) 16777216) with
        | true => match fillA (fun i => some (Nat.mul i s, s)) ((parts.toList.map (·.1)).zip as) (repA z len) with
          | some out => some (rowOf e out, fun n => .sl n 0 len len true s)
          | none => none
        | false => match Nat.beq len 0 with
          | true => some (rowOf e [], fun n => .sl n 0 0 0 true s)
          | false => none
      | none => none
    | none => none
  | none => none
theorem mkBuildSlice_ok (e : EvRel G φ ρ ev) {o : Oper} {t len parts b f} (ho : o.op = .buildSlice t len parts) (hpt : len = 0 → parts.toList = []) (hh : mkBuildSlice P G t len parts ρ = some (b, f)) : Makes P φ w ev o b f := by
  have hex : execOp ev o = Instr.buildSlice t len (parts.map fun (i, x) => (i, ev x)) >>= fun v => Pure.pure (.value v) := by simp only [execOp, ho]
  unfold mkBuildSlice at hh
  split at hh
  · rename_i el s ht
    obtain ⟨hu, hs⟩ := slT_ok ht
    split at hh
    · rename_i z hz
      split at hh
      · rename_i as has
        split at hh
        · rename_i hb
          have hb : s = z.length ∧ 1 ≤ len * s ∧ len * s ≤ 16777216 := by simpa using hb
          obtain ⟨hsz, hb1, hb2⟩ := hb
          split at hh
          · rename_i out hout
            simp only [Option.some.injEq, Prod.mk.injEq] at hh
            obtain ⟨rfl, rfl⟩ := hh
            obtain ⟨zv, h1, hr⟩ := zeroA_ok (w := w) (φ := φ) hz
            have hlas : as.length = (parts.toList.map (·.2)).length := by have := (rdAll_rel e has).length; simpa using this.symm
            have hzs : zv.cells.size = s := by rw [hsz]; simpa using hr.length
            obtain ⟨B, g1, g2⟩ := fillA_ok (φ := φ) (A := (Array.range (len * zv.cells.size)).map (zv.cells[· % zv.cells.size]!)) (rdAll_rel e has) (by simp [hlas]) (repA_rel hr len) hout
            rw [zip_map] at g1
            have hBs : B.size = out.length := by simpa using g2.length
            have hol : out.length = len * s := by
              have := g2.length
              have hfl : ∀ {place : Nat → Option (Nat × Nat)} {ps : List (Nat × AV)} {cs o : List AV}, fillA place ps cs = some o → o.length = cs.length := by
                intro place ps
                induction ps with
                | nil => intro cs o h; have : some cs = some o := h; injection this with this; rw [this]
                | cons p ps ih =>
                  intro cs o h
                  obtain ⟨i, a⟩ := p
                  obtain ⟨off, q1, q2, q3⟩ := fillA_cons h
                  rw [ih q3]
                  simp; omega
              rw [hfl hout, repA_len, hsz]
            refine ⟨.slice (some ⟨w.heap.size, 0, none⟩) len len, { w with heap := w.heap.push (.cells B el) }, .cells B el, B.size, ?_, ⟨rfl, rfl, rfl, rfl⟩, ?_⟩
            · rw [hex]
              refine Ok.bind ?_ Ok.pure
              unfold Instr.buildSlice
              refine (Ok.underlying hu).bind ((ok_sizeOf hs).bind ?_)
              rw [if_neg (by omega)]
              have hne : ¬ len * s = 0 := by omega
              simp only [hne, if_false]
              refine h1.bind ?_
              rw [← hzs]
              have g1' : Instr.fill (fun i => some (i * zv.cells.size, zv.cells.size)) ((Array.range (len * zv.cells.size)).map (zv.cells[· % zv.cells.size]!)) (parts.map fun (x : Nat × Operand) => (x.1, ev x.2)).toList = some B := by
                rw [← g1, hzs]; simp
              refine (Ok.pure : Ok P (Pure.pure zv.cells) w _ w).bind ?_
              simp only [g1']
              exact Ok.bind ok_newRow Ok.pure
            · intro φ' n hs' hn
              refine ⟨?_, ?_⟩
              · have := rel_rowOf (e := el) (fz := (0, 0)) (tail := #[]) (B := w.heap.size) (g2.mono hs') (fun k _ => by simp)
                simpa using this
              · simp only [RelV]
                exact ⟨_, 0, len, hn, rfl, Nat.le_refl _, Nat.le_refl _, fun _ => rfl, by simp; omega, fun _ => ⟨Nat.le_refl _, rfl⟩⟩
          · cases hh
        · split at hh
          · rename_i hl0
            have hl0 : len = 0 := by simpa using hl0
            subst hl0
            simp only [Option.some.injEq, Prod.mk.injEq] at hh
            obtain ⟨rfl, rfl⟩ := hh
            refine ⟨.slice (some ⟨w.heap.size, 0, none⟩) 0 0, { w with heap := w.heap.push (.cells #[] el) }, .cells #[] el, 0, ?_, ⟨rfl, rfl, rfl, rfl⟩, ?_⟩
            · rw [hex]
              refine Ok.bind ?_ Ok.pure
              unfold Instr.buildSlice
              refine (Ok.underlying hu).bind ((ok_sizeOf hs).bind ?_)
              rw [if_neg (by omega)]
              simp only [Nat.zero_mul, if_true]
              refine (Ok.pure : Ok P (Pure.pure #[]) w _ w).bind ?_
              have hp0 : (parts.map fun (x : Nat × Operand) => (x.1, ev x.2)).toList = [] := by simp [hpt rfl]
              have hz0 : Array.map (fun x => (#[] : Array Value)[x % (#[] : Array Value).size]!) (Array.range 0) = #[] := by simp
              simp only [hp0, Instr.fill, hz0]
              exact Ok.bind ok_newRow Ok.pure
            · intro φ' n hs' hn
              refine ⟨?_, ?_⟩
              · have := rel_rowOf (φ := φ') (e := el) (fz := (0, 0)) (as := []) (vs := #[]) (tail := #[]) (B := w.heap.size) (by simp) (fun k _ => by simp)
                simpa using this
              · simp only [RelV]
                exact ⟨_, 0, 0, hn, rfl, Nat.le_refl _, Nat.le_refl _, fun _ => rfl, by simp, fun h => absurd rfl h⟩
          · cases hh
      · cases hh
    · cases hh
  · cases hh
end
end
section
section
variable {P : Program} {G : Nat} {φ : Phi} {h : Hp} {w : World} {ρ : PT AV} {ev : Operand → Value}
def bytesT (P : Program) (t : TypeId) : Option Nat := match P.info? t with | some i => some i.bytes | none => none
noncomputable def mkMake (P : Program) (G : Nat) (t : TypeId) (l c : Operand) (ρ : PT AV) : Option (Blk × (Nat → AV)) := match slT P t with
  | some (e, s) => match zeroA P e with
    | some z => match bytesT P e with
      | some by_ => match rd G ρ l with
        | some (.int _ (.ofNat l)) => match rd G ρ c with
          | some (.int _ (.ofNat c)) => match Nat.beq s z.length && (Nat.ble l c && (Nat.ble c 4294967296 && Nat.ble (Nat.mul c by_) 1099511627776)) with
            | true => frc (Nat.mul c s) fun n => frc l fun l => frc c fun c => some (.row e 0 n z .lf, fun m => .sl m 0 l c true s)
            | false => none
          | _ => none
        | _ => none
      | none => none
    | none => none
  | none => none
theorem wrap_small {n : Nat} (h : n ≤ 4294967296) : IntKind.i64.wrap (n : Int) = n := by
  have := wrapI_eq .i64 (n : Int)
  rw [← this]
  unfold wrapI
  have hb : Nat.ble n (topN .i64) = true := by simp [topN]; omega
  show (match Nat.ble n (topN .i64) with | true => Int.ofNat n | false => _) = _
  rw [hb]
  rfl
theorem mkMake_ok (e : EvRel G φ ρ ev) {o : Oper} {t l c b f} (ho : o.op = .makeSlice t l c) (hh : mkMake P G t l c ρ = some (b, f)) : Makes P φ w ev o b f := by
  have hex : execOp ev o = Instr.makeSlice t (ev l) (ev c) >>= fun v => Pure.pure (.value v) := by simp only [execOp, ho]
  unfold mkMake at hh
  split at hh
  · rename_i el s ht
    obtain ⟨hu, hs⟩ := slT_ok ht
    split at hh
    · rename_i z hz
      split at hh
      · rename_i bb hbb
        split at hh
        · rename_i kl l hl
          split at hh
          · rename_i kc c hc
            split at hh
            · rename_i hb
              simp only [frc_eq, Option.some.injEq, Prod.mk.injEq] at hh
              obtain ⟨rfl, rfl⟩ := hh
              have hb : s = z.length ∧ l ≤ c ∧ c ≤ 4294967296 ∧ c * bb ≤ 1099511627776 := by simpa using hb
              obtain ⟨hsz, b1, b2, b3⟩ := hb
              have hl' := e _ _ hl
              have hc' := e _ _ hc
              simp only [RelV] at hl' hc'
              obtain ⟨zv, h1, hr⟩ := zeroA_ok (w := w) (φ := φ) hz
              have hzs : zv.cells.size = s := by rw [hsz]; simpa using hr.length
              obtain ⟨i, hi, hib⟩ : ∃ i, P.info? el = some i ∧ i.bytes = bb := by
                unfold bytesT at hbb
                split at hbb
                · rename_i i hi; injection hbb with hbb; exact ⟨i, hi, hbb⟩
                · cases hbb
              have hzl : ∀ (k : Nat), k < c * s → ∃ v, ((Array.range (c * s)).map (zv.cells[· % zv.cells.size]!))[k]? = some v ∧ zv.cells[k % s]? = some v := fun k hk => by
                have hsp : 0 < s := by
                  rcases Nat.eq_zero_or_pos s with h0 | h0
                  · rw [h0] at hk; omega
                  · exact h0
                have hlt : k % s < zv.cells.size := by rw [hzs]; exact Nat.mod_lt _ hsp
                refine ⟨zv.cells[k % s], ?_, Array.getElem?_eq_getElem hlt⟩
                have hg := getElem!_pos zv.cells (k % s) hlt
                simp [hk, hzs, hg]
              refine ⟨.slice (some ⟨w.heap.size, 0, none⟩) l c, { w with heap := w.heap.push (.cells (if c * s = 0 then #[] else (Array.range (c * s)).map (zv.cells[· % zv.cells.size]!)) el) }, .cells (if c * s = 0 then #[] else (Array.range (c * s)).map (zv.cells[· % zv.cells.size]!)) el, c * s, ?_, ⟨rfl, rfl, rfl, rfl⟩, ?_⟩
              · rw [hex]
                refine Ok.bind ?_ Ok.pure
                unfold Instr.makeSlice
                refine (Ok.underlying hu).bind ?_
                rw [hl', hc']
                refine Ok.bind (a := (l : Int)) (w' := w) ((Ok.pure : Ok P (Pure.pure (kl, Int.ofNat l)) w _ w).bind Ok.pure) ?_
                refine Ok.bind (a := (c : Int)) (w' := w) ((Ok.pure : Ok P (Pure.pure (kc, Int.ofNat c)) w _ w).bind Ok.pure) ?_
                refine (Ok.typeInfo hi).bind ?_
                rw [wrap_small (n := l) (by omega), wrap_small (n := c) (by omega)]
                have hnl : ¬ ((c : Int) < 0) := by omega
                have hnb : ¬ ((i.bytes : Int) * (c : Int) > 2 ^ 48) := by
                  rw [hib]
                  have h5 : ((c * bb : Nat) : Int) ≤ ((1099511627776 : Nat) : Int) := Int.ofNat_le.2 b3
                  rw [Int.natCast_mul, Int.mul_comm] at h5
                  intro h6
                  have h7 : (2 : Int) ^ 48 = 281474976710656 := by decide
                  rw [h7] at h6
                  exact absurd (Int.lt_of_lt_of_le h6 h5) (by decide)
                have hl0 : ¬ ((l : Int) < 0) := by omega
                have hlc : ¬ ((l : Int) > (c : Int)) := by omega
                simp only [hnl, hnb, hl0, hlc, decide_false, Bool.or_self, Bool.false_eq_true, if_false]
                refine Ok.bind (a := ()) (w' := w) ?_ ?_
                · unfold askRoom
                  split
                  · rfl
                  · exact Ok.pure
                · refine (ok_sizeOf hs).bind ?_
                  simp only [Int.toNat_natCast]
                  by_cases h0 : c * s = 0
                  · simp only [h0, if_true]
                    refine (Ok.pure : Ok P (Pure.pure #[]) w _ w).bind ?_
                    have hz0 : Array.map (fun x => (#[] : Array Value)[x % (#[] : Array Value).size]!) (Array.range 0) = #[] := by simp
                    rw [hz0]
                    exact Ok.bind ok_newRow Ok.pure
                  · simp only [h0, if_false]
                    refine h1.bind ?_
                    refine (Ok.pure : Ok P (Pure.pure zv.cells) w _ w).bind ?_
                    exact Ok.bind ok_newRow Ok.pure
              · intro φ' n hs' hn
                refine ⟨?_, ?_⟩
                · refine ⟨rfl, _, (0, 0), rfl, ?_, by simp, ?_, fun k _ => by simp⟩
                  · by_cases h0 : c * s = 0
                    · simp [h0]
                    · simp [h0]
                  · intro k a hk
                    obtain ⟨hlt, ha⟩ := cellA_lf hk
                    have hlt : k < c * s := hlt
                    have h0 : ¬ c * s = 0 := by omega
                    obtain ⟨v, q1, q2⟩ := hzl k hlt
                    rw [← hsz] at ha
                    obtain ⟨u, q3, q4⟩ := (hr.mono hs').get ha
                    have : zv.cells[k % s]? = some u := by simpa using q3
                    rw [q2] at this
                    injection this with this
                    subst this
                    exact ⟨v, by simpa [h0] using q1, q4⟩
                · simp only [RelV]
                  exact ⟨_, 0, c, hn, rfl, b1, Nat.le_refl _, fun _ => rfl, by simp, fun _ => ⟨Nat.le_refl _, rfl⟩⟩
            · cases hh
          · cases hh
        · cases hh
      · cases hh
    · cases hh
  · cases hh
noncomputable def mkMap (P : Program) (G : Nat) (t : TypeId) (r : Option Operand) (ρ : PT AV) : Option (Blk × (Nat → AV)) := match r with
  | none => some (.map [] 0, fun n => .mp n)
  | some x => match mapT P t with
    | some _ => match rd G ρ x with
      | some (.int _ _) => some (.map [] 0, fun n => .mp n)
      | _ => none
    | none => none
theorem mkMap_ok (e : EvRel G φ ρ ev) {o : Oper} {t r b f} (ho : o.op = .makeMap t r) (hh : mkMap P G t r ρ = some (b, f)) : Makes P φ w ev o b f := by
  have hex : execOp ev o = Instr.makeMap t (r.map ev) >>= fun v => Pure.pure (.value v) := by simp only [execOp, ho]
  have fin : b = .map [] 0 → f = (fun n => .mp n) → Ok P (Instr.makeMap t (r.map ev)) w (.map (some w.heap.size)) { w with heap := w.heap.push (.map #[] 0) } → Makes P φ w ev o b f := fun e1 e2 h1 => by
    subst e1 e2
    refine ⟨.map (some w.heap.size), { w with heap := w.heap.push (.map #[] 0) }, .map #[] 0, 0, ?_, ⟨rfl, rfl, rfl, rfl⟩, ?_⟩
    · rw [hex]; exact h1.bind Ok.pure
    · intro φ' n hs hn
      exact ⟨⟨#[], rfl, rfl⟩, by simp only [RelV]; exact ⟨_, hn, rfl⟩⟩
  unfold mkMap at hh
  split at hh
  · simp only [Option.some.injEq, Prod.mk.injEq] at hh
    exact fin hh.1.symm hh.2.symm rfl
  · rename_i x
    split at hh
    · rename_i km hm
      have hu := mapT_ok (k := km.1) (e := km.2) hm
      split at hh
      · rename_i k n hx
        have hv := e _ _ hx
        simp only [RelV] at hv
        simp only [Option.some.injEq, Prod.mk.injEq] at hh
        refine fin hh.1.symm hh.2.symm ?_
        unfold Instr.makeMap
        simp only [Option.map_some, hv]
        refine (Ok.underlying hu).bind ?_
        refine Ok.bind (a := n) (w' := w) ((Ok.pure : Ok P (Pure.pure (k, n)) w _ w).bind Ok.pure) ?_
        rfl
      · cases hh
    · cases hh
/-! ### the bytes of a string -/
def sbT (P : Program) (src dst : TypeId) : Option TypeId := match P.underlying src with
  | some .string => match P.underlying dst with
    | some (.slice e) => match P.underlying e with
      | some (.int .u8) => some e
      | _ => none
    | _ => none
  | _ => none
theorem sbT_ok {src dst e : TypeId} (hh : sbT P src dst = some e) : P.underlying src = some .string ∧ P.underlying dst = some (.slice e) ∧ P.underlying e = some (.int .u8) := by
  unfold sbT at hh
  split at hh
  · split at hh
    · split at hh
      · injection hh with hh; subst hh; exact ⟨by assumption, by assumption, by assumption⟩
      · cases hh
    · cases hh
  · cases hh
noncomputable def intsA (s : List UInt8) : List AV :=
  List.rec (motive := fun _ => List AV) [] (fun b _ ih => frc b.toNat fun n => .int .u8 (.ofNat n) :: ih) s
theorem intsA_eq : ∀ (s : List UInt8), intsA s = s.map fun b => .int .u8 (Int.ofNat b.toNat)
  | [] => rfl
  | b :: s => by
    show (frc b.toNat fun n => AV.int .u8 (.ofNat n) :: intsA s) = _
    rw [frc_eq, intsA_eq s]
    rfl
theorem intsA_rel (s : List UInt8) : RelL φ (intsA s) (s.map fun (b : UInt8) => Value.int .u8 b.toNat) := by
  rw [intsA_eq]
  induction s with
  | nil => simp
  | cons b s ih => simp only [List.map_cons, relL_cons_cons]; exact ⟨by simp only [RelV]; rfl, ih⟩
noncomputable def mkBytes (P : Program) (G : Nat) (src dst : TypeId) (x : Operand) (ρ : PT AV) : Option (Blk × (Nat → AV)) := match rd G ρ x with
  | some (.str s) => match sbT P src dst with
    | some e => match spine (intsA s) with
      | some l => frc l.length fun k => match Nat.ble k 1000000000 with
        | true => some (rowOf e l, fun n => .sl n 0 k k false 1)
        | false => none
      | none => none
    | none => none
  | _ => none
theorem mkBytes_ok (e : EvRel G φ ρ ev) {o : Oper} {src dst x b f} (ho : o.op = .convert src dst x) (hh : mkBytes P G src dst x ρ = some (b, f)) : Makes P φ w ev o b f := by
  have hex : execOp ev o = convert src dst (ev x) >>= fun v => Pure.pure (.value v) := by simp only [execOp, ho]
  unfold mkBytes at hh
  split at hh
  · rename_i s hx
    have hv := e _ _ hx
    simp only [RelV] at hv
    split at hh
    · rename_i el ht
      obtain ⟨h1, h2, h3⟩ := sbT_ok ht
      rw [spine_eq] at hh
      simp only [frc_eq] at hh
      split at hh
      · rename_i hle
        simp only [Option.some.injEq, Prod.mk.injEq] at hh
        obtain ⟨rfl, rfl⟩ := hh
        have hlen : (intsA s).length = s.length := by rw [intsA_eq]; simp
        rw [hlen] at hle ⊢
        have hle : s.length ≤ 1000000000 := by simpa using hle
        have hsz : (⟨s.toArray⟩ : ByteArray).size = s.length := by simp [ByteArray.size]
        let q := Question.appendCap s.length 0 el
        let cap := q.cut (w.tape w.drawn q)
        have hcap : s.length ≤ cap := by
          show s.length ≤ s.length + w.tape w.drawn q % (2 ^ 63 - s.length)
          omega
        let vs : Array Value := s.toArray.map fun b => .int .u8 b.toNat
        let tail : Array Value := Array.replicate (cap - s.length) (.int .u8 0)
        have hN : (vs ++ tail).size = cap := by simp [vs, tail]; omega
        refine ⟨.slice (some ⟨w.heap.size, 0, none⟩) s.length cap, { w with heap := w.heap.push (.cells (vs ++ tail) el (cap, cap + 1)), drawn := w.drawn + 1 }, .cells (vs ++ tail) el (cap, cap + 1), cap, ?_, ⟨rfl, rfl, rfl, rfl⟩, ?_⟩
        · rw [hex]
          refine Ok.bind ?_ Ok.pure
          unfold convert
          refine (Ok.underlying h1).bind ((Ok.underlying h2).bind ?_)
          rw [hv]
          refine (Ok.underlying h3).bind ?_
          show Ok P (Conv.stringToBytes el ⟨s.toArray⟩) w _ _
          unfold Conv.stringToBytes
          rw [hsz]
          refine Ok.bind (a := cap) (w' := { w with drawn := w.drawn + 1 }) ?_ ?_
          · simp [Ok, choose, Sem.run, Question.forced, cap, q]
          · refine Ok.bind (a := (⟨w.heap.size, 0, none⟩ : Addr)) (w' := { w with heap := w.heap.push (.cells (vs ++ tail) el), drawn := w.drawn + 1 }) (by exact ok_newRow) ?_
            refine Ok.bind (a := ()) (w' := { w with heap := w.heap.push (.cells (vs ++ tail) el (cap, cap + 1)), drawn := w.drawn + 1 }) ?_ Ok.pure
            unfold markStringish
            refine Ok.bind (a := some (el, cap)) (w' := { w with heap := w.heap.push (.cells (vs ++ tail) el), drawn := w.drawn + 1 }) ?_ ?_
            · simp only [Ok, shape, Sem.run, World.shape?]
              simp [hN]
            · show Ok P (freeze ⟨w.heap.size, cap, none⟩ 1) _ () _
              simp only [Ok, freeze, Sem.run, World.freeze]
              simp only [Nat.one_ne_zero, if_false]
              congr 2
              apply Array.ext_getElem?
              intro k
              rw [Array.getElem?_modify]
              by_cases hk : w.heap.size = k
              · subst hk; simp
              · simp only [hk, if_false]
                by_cases hlt : k < w.heap.size
                · simp [Array.getElem?_push_lt, hlt]
                · rw [Array.getElem?_eq_none (by simp; omega), Array.getElem?_eq_none (by simp; omega)]
        · intro φ' n hs' hn
          refine ⟨?_, ?_⟩
          · have := rel_rowOf (φ := φ') (e := el) (fz := (cap, cap + 1)) (as := intsA s) (vs := vs) (tail := tail) (B := w.heap.size) (by simpa [vs] using intsA_rel (φ := φ') s) (fun k hk => by rw [hN] at hk; simp; omega)
            rw [hN] at this
            exact this
          · simp only [RelV]
            exact ⟨_, 0, cap, hn, rfl, Nat.le_refl _, hcap, fun h => absurd h (by simp), by simp, fun _ => ⟨Nat.le_refl _, rfl⟩⟩
      · cases hh
    · cases hh
  · cases hh
end
end
section
section
variable {P : Program} {G : Nat} {φ : Phi} {h : Hp} {w : World} {ρ : PT AV} {ev : Operand → Value}
def skipV : AV := .tup []
theorem skipV_rel : RelV φ skipV undef := by simp only [skipV, RelV]; exact ⟨#[], rfl, rfl⟩
/-- an operation that answers a and leaves h -/
def Does (P : Program) (G : Nat) (φ : Phi) (h : Hp) (w : World) (ev : Operand → Value) (o : Oper) (a : AV) (h' : Hp) : Prop :=
  ∃ n v w' φ', Ok P (execOp ev o) w n w' ∧ (n = .value v ∨ n = .skip ∧ v = undef) ∧ Tr G φ h w φ' h' w' ∧ RelV φ' a v
theorem Gives.does (r : SRel G φ h w) {o a} (g : Gives P φ w ev o a) : Does P G φ h w ev o a h := by
  obtain ⟨v, h1, h2⟩ := g
  exact ⟨_, v, w, φ, h1, .inl rfl, Tr.refl r, h2⟩

noncomputable def effStore (P : Program) (G : Nat) (t : TypeId) (a x : Operand) (ρ : PT AV) (h : Hp) : Option Hp := match rd G ρ a with
  | some (.ptr b off) => match rd G ρ x with
    | some v => match tsize P t with
      | some s => match Nat.beq (cells v).length s with
        | true => hWrite G h b off (cells v)
        | false => none
      | none => none
    | none => none
  | _ => none
theorem effStore_ok (e : EvRel G φ ρ ev) (r : SRel G φ h w) {o : Oper} {t a x h'} (ho : o.op = .store t a x) (hh : effStore P G t a x ρ h = some h') : Does P G φ h w ev o skipV h' := by
  unfold effStore at hh
  split at hh
  · rename_i b off ha
    have ha := e _ _ ha
    simp only [RelV] at ha
    obtain ⟨p, hp, hlo, ha⟩ := ha
    split at hh
    · rename_i v hx
      have hx := e _ _ hx
      split at hh
      · rename_i s hs
        split at hh
        · rename_i hl
          have hl : (cells v).length = s := by simpa using hl
          have hc := cells_rel hx
          obtain ⟨w', h1, h2⟩ := write_ptr (P := P) r hh hc hp (j := p.o + (off - p.lo)) (.inr fun _ => rfl)
          refine ⟨.skip, undef, w', φ, ?_, .inr ⟨rfl, rfl⟩, h2, skipV_rel⟩
          simp only [execOp, ho]
          refine Ok.bind (s := Instr.storeAt t (ev a) (ev x)) (a := ()) ?_ Ok.pure
          unfold Instr.storeAt
          rw [ha]
          refine (Ok.pure : Ok P (Pure.pure _) w _ w).bind ?_
          unfold storeVar
          refine (ok_sizeOf hs).bind ?_
          have : (ev x).cells.size = s := by rw [← hl]; simpa using hc.length
          simp only [this, ne_eq, not_true_eq_false, if_false]
          exact h1
        · cases hh
      · cases hh
    · cases hh
  · cases hh

/-! ### maps -/
theorem ok_setMap {B : Nat} {E E' : Array MapEntry} {c c' : Nat} (hB : w.heap[B]? = some (.map E c)) : Ok P (setObj B (.map E' c')) w () { w with heap := w.heap.setIfInBounds B (.map E' c') } := by
  simp [Ok, setObj, Sem.run, hB]
theorem Tr.setMap (r : SRel G φ h w) {b es es' c c'} {p : Pl} {E' : Array MapEntry} (hG : G ≤ b) (hb : h.get b = some (.map es c)) (hp : φ b = some p) (hE : RelE φ es' E'.toList) :
    Tr G φ h w φ (h.put b (.map es' c')) { w with heap := w.heap.setIfInBounds p.B (.map E' c') } :=
  Tr.change r hG hb hp rfl ⟨E', rfl, hE⟩
noncomputable def setEnt (key val : AV) (es : List Ent) : Nat → Option (List Ent) :=
  List.rec (motive := fun _ => Nat → Option (List Ent)) (fun _ => none) (fun e es ih i => match i with
    | 0 => some ({ key := key, val := val, born := e.born } :: es)
    | i + 1 => match ih i with | some r => some (e :: r) | none => none) es
theorem setEnt_rel {key val : AV} {kv vv : Value} (hk : RelV φ key kv) (hv : RelV φ val vv) : ∀ {es : List Ent} {ms : List MapEntry} {i : Nat} {es' : List Ent}, RelE φ es ms → setEnt key val es i = some es' →
    RelE φ es' (ms.modify i fun m => { m with key := kv, val := vv })
  | [], _, i, es', _, hh => by have : (none : Option (List Ent)) = some es' := hh; cases this
  | e :: es, _, i, es', r, hh => by
    obtain ⟨m, ms, rfl, h1, h2⟩ := r
    cases i with
    | zero =>
      have : some ({ key := key, val := val, born := e.born } :: es) = some es' := hh
      injection this with this
      subst this
      exact ⟨_, _, rfl, ⟨hk, hv, h1.2.2⟩, h2⟩
    | succ i =>
      have hh' : (match setEnt key val es i with | some r => some (e :: r) | none => none) = some es' := hh
      split at hh'
      · rename_i r' hr'
        injection hh' with hh'
        subst hh'
        exact ⟨m, _, rfl, h1, setEnt_rel hk hv h2 hr'⟩
      · cases hh'
theorem RelE.append : ∀ {es es' : List Ent} {ms ms' : List MapEntry}, RelE φ es ms → RelE φ es' ms' → RelE φ (es ++ es') (ms ++ ms')
  | [], _, _, _, r, r' => by have : _ = [] := r; subst this; exact r'
  | _ :: _, _, _, _, r, r' => by obtain ⟨m, ms, rfl, h1, h2⟩ := r; exact ⟨m, _, rfl, h1, RelE.append h2 r'⟩
/-- the stored key and the new one are the same, bit by bit -/
noncomputable def keyStays (key : AV) (e : Option Ent) : Bool := match e with
  | some e => match toV e.key with
    | some old => match toV key with
      | some new => Instr.sameBits 10000 old new
      | none => false
    | none => false
  | none => false
noncomputable def effUpdate (P : Program) (G : Nat) (t : TypeId) (m k x : Operand) (ρ : PT AV) (h : Hp) : Option Hp := match mapT P t with
  | some (kt, _) => match rd G ρ m with
    | some (.mp b) => match Nat.ble G b with
      | true => match h.get b with
        | some (.map es clock) => match rd G ρ k with
          | some key => match rd G ρ x with
            | some v => match findA P true kt es key with
              | some (some i) => match keyStays key (nth es i) with
                | true => match setEnt key v es i with
                  | some es' => some (h.put b (.map es' clock))
                  | none => none
                | false => none
              | some none => frc (Nat.add clock 1) fun c => match spine (es ++ [{ key := key, val := v, born := clock }]) with
                | some es' => some (h.put b (.map es' c))
                | none => none
              | none => none
            | none => none
          | none => none
        | _ => none
      | false => none
    | _ => none
  | none => none
theorem effUpdate_ok (e : EvRel G φ ρ ev) (r : SRel G φ h w) {o : Oper} {t m k x h'} (ho : o.op = .mapUpdate t m k x) (hh : effUpdate P G t m k x ρ h = some h') : Does P G φ h w ev o skipV h' := by
  unfold effUpdate at hh
  split at hh
  · rename_i kt et ht
    have hu := mapT_ok ht
    split at hh
    · rename_i b hm
      have hm := e _ _ hm
      simp only [RelV] at hm
      obtain ⟨p, hp, hm⟩ := hm
      split at hh
      · rename_i hG
        have hG : G ≤ b := by simpa using hG
        split at hh
        · rename_i es clock hb
          obtain ⟨q, E, hq, hB, hE⟩ := map_of r hb
          rw [hp] at hq
          injection hq with hq
          subst hq
          split at hh
          · rename_i key hk
            have hk := e _ _ hk
            split at hh
            · rename_i v hx
              have hx := e _ _ hx
              have fin : ∀ {es' : List Ent} {E' : Array MapEntry} {c' : Nat}, RelE φ es' E'.toList → h' = h.put b (.map es' c') →
                  Ok P (Instr.mapUpdate t (.map (some p.B)) (ev k) (ev x)) w () { w with heap := w.heap.setIfInBounds p.B (.map E' c') } → Does P G φ h w ev o skipV h' := fun hE' hh' hrun => by
                subst hh'
                refine ⟨.skip, undef, _, φ, ?_, .inr ⟨rfl, rfl⟩, Tr.setMap r hG hb hp hE', skipV_rel⟩
                simp only [execOp, ho, hm]
                exact Ok.bind (s := Instr.mapUpdate t (.map (some p.B)) (ev k) (ev x)) (a := ()) hrun Ok.pure
              split at hh
              · rename_i i hf
                split at hh
                · rename_i hst
                  split at hh
                  · rename_i es' hes'
                    injection hh with hh
                    obtain ⟨g1, en, me, g2, g3, g4, g5⟩ := findA_ok (P := P) (w := w) hE hk hf
                    refine fin (E' := E.modify i fun m => { m with key := ev k, val := ev x }) (by rw [Array.toList_modify]; exact setEnt_rel hk hx hE hes') hh.symm ?_
                    unfold Instr.mapUpdate
                    refine (Ok.underlying hu).bind ?_
                    refine (ok_getMap hB).bind ?_
                    refine Ok.bind (a := ()) (w' := w) (by simpa using g1) ?_
                    refine g5.bind ?_
                    unfold keyStays at hst
                    rw [nth_eq, g2] at hst
                    simp only at hst
                    split at hst
                    · rename_i old hold
                      split at hst
                      · rename_i new hnew
                        have e1 := toV_rel hold g4.1
                        have e2 := toV_rel hnew hk
                        subst e1 e2
                        have hg3 : E[i]? = some me := by simpa using g3
                        refine Ok.bind (a := ev k) (w' := w) ?_ (ok_setMap hB)
                        rw [hg3]
                        unfold Instr.keyThatStays
                        simp only [Option.map_some, Option.getD_some, hst, if_true]
                        exact Ok.pure
                      · cases hst
                    · cases hst
                  · cases hh
                · cases hh
              · rename_i hf
                rw [frc_eq, spine_eq] at hh
                injection hh with hh
                obtain ⟨g1, g5⟩ := findA_ok (P := P) (w := w) hE hk hf
                refine fin (E' := E.push { key := ev k, val := ev x, born := clock }) (by
                  rw [Array.toList_push]
                  exact hE.append ⟨_, _, rfl, ⟨hk, hx, rfl⟩, rfl⟩) hh.symm ?_
                unfold Instr.mapUpdate
                refine (Ok.underlying hu).bind ?_
                refine (ok_getMap hB).bind ?_
                refine Ok.bind (a := ()) (w' := w) (by simpa using g1) ?_
                exact g5.bind (ok_setMap hB)
              · cases hh
            · cases hh
          · cases hh
        · cases hh
      · cases hh
    · cases hh
  · cases hh
end
end
section
section
variable {P : Program} {G : Nat} {φ : Phi} {h : Hp} {w : World} {ρ : PT AV} {ev : Operand → Value}
noncomputable def rd2 (G : Nat) (ρ : PT AV) (l : List Operand) : Option (AV × AV) := match l with
  | [x, y] => match rd G ρ x with
    | some a => match rd G ρ y with
      | some b => some (a, b)
      | none => none
    | none => none
  | _ => none
theorem rd2_ok (e : EvRel G φ ρ ev) {as : Array Operand} {a b : AV} (hh : rd2 G ρ as.toList = some (a, b)) : ∃ u v, as.map ev = #[u, v] ∧ RelV φ a u ∧ RelV φ b v := by
  unfold rd2 at hh
  split at hh
  · rename_i x y hx
    split at hh
    · rename_i a' ha
      split at hh
      · rename_i b' hb
        simp only [Option.some.injEq, Prod.mk.injEq] at hh
        obtain ⟨rfl, rfl⟩ := hh
        refine ⟨ev x, ev y, ?_, e _ _ ha, e _ _ hb⟩
        apply Array.toList_inj.1
        simp [hx]
      · cases hh
    · cases hh
  · cases hh
/-- an operation that answers nothing: the empty tuple -/
theorem unit_rel : RelV φ skipV (.tuple #[]) := by simp only [skipV, RelV]; exact ⟨#[], rfl, rfl⟩

/-! ### delete -/
noncomputable def delEnt (es : List Ent) : Nat → Option (List Ent) :=
  List.rec (motive := fun _ => Nat → Option (List Ent)) (fun _ => none) (fun e es ih i => match i with
    | 0 => some es
    | i + 1 => match ih i with | some r => some (e :: r) | none => none) es
theorem delEnt_rel : ∀ {es : List Ent} {ms : List MapEntry} {i : Nat} {es' : List Ent}, RelE φ es ms → delEnt es i = some es' → RelE φ es' (ms.eraseIdx i) ∧ i < ms.length
  | [], _, i, es', _, hh => by have : (none : Option (List Ent)) = some es' := hh; cases this
  | e :: es, _, i, es', r, hh => by
    obtain ⟨m, ms, rfl, h1, h2⟩ := r
    cases i with
    | zero =>
      have : some es = some es' := hh
      injection this with this
      subst this
      exact ⟨h2, by simp⟩
    | succ i =>
      have hh' : (match delEnt es i with | some r => some (e :: r) | none => none) = some es' := hh
      split at hh'
      · rename_i r' hr'
        injection hh' with hh'
        subst hh'
        obtain ⟨g1, g2⟩ := delEnt_rel h2 hr'
        exact ⟨⟨m, _, rfl, h1, g1⟩, by simpa using g2⟩
      · cases hh'
noncomputable def effDelete (P : Program) (G : Nat) (c : Call) (ρ : PT AV) (h : Hp) : Option Hp := match argT c with
  | some t => match mapT P t with
    | some (kt, _) => match rd2 G ρ c.args.toList with
      | some (.mp b, key) => match Nat.ble G b with
        | true => match h.get b with
          | some (.map es clock) => match findA P false kt es key with
            | some (some i) => match delEnt es i with
              | some es' => some (h.put b (.map es' clock))
              | none => none
            | some none => some (h.put b (.map es clock))
            | none => none
          | _ => none
        | false => none
      | _ => none
    | none => none
  | none => none
theorem effDelete_ok (e : EvRel G φ ρ ev) (r : SRel G φ h w) {o : Oper} {c h'} (ho : o.op = .call c) (hc : c.callee = .builtin .delete) (hh : effDelete P G c ρ h = some h') : Does P G φ h w ev o skipV h' := by
  unfold effDelete at hh
  split at hh
  · rename_i t ht
    have ht' : c.argTypes[0]? = some t := ht
    split at hh
    · rename_i kt et hkt
      have hu := mapT_ok hkt
      split at hh
      · rename_i b key hx
        obtain ⟨u, v, hargs, hm, hk⟩ := rd2_ok e hx
        simp only [RelV] at hm
        obtain ⟨p, hp, rfl⟩ := hm
        split at hh
        · rename_i hG
          have hG : G ≤ b := by simpa using hG
          split at hh
          · rename_i es clock hb
            obtain ⟨q, E, hq, hB, hE⟩ := map_of r hb
            rw [hp] at hq
            injection hq with hq
            subst hq
            have fin : ∀ {es' : List Ent} {E' : Array MapEntry}, RelE φ es' E'.toList → h' = h.put b (.map es' clock) →
                Ok P (Builtin.delete_ c.argTypes o.type #[.map (some p.B), v]) w (.tuple #[]) { w with heap := w.heap.setIfInBounds p.B (.map E' clock) } → Does P G φ h w ev o skipV h' := fun hE' hh' hrun => by
              subst hh'
              refine ⟨.value (.tuple #[]), .tuple #[], _, φ, ?_, .inl rfl, Tr.setMap r hG hb hp hE', unit_rel⟩
              rw [exec_builtin ho hc, hargs]
              exact hrun.bind Ok.pure
            split at hh
            · rename_i i hf
              split at hh
              · rename_i es' hes'
                injection hh with hh
                obtain ⟨g1, en, me, g2, g3, g4, g5⟩ := findA_ok (P := P) (w := w) hE hk hf
                obtain ⟨g6, g7⟩ := delEnt_rel hE hes'
                refine fin (E' := E.eraseIdxIfInBounds i) (by
                  rw [Array.eraseIdxIfInBounds]
                  have : i < E.size := by simpa using g7
                  simp only [this, dif_pos, Array.toList_eraseIdx]
                  exact g6) hh.symm ?_
                unfold Builtin.delete_
                simp only [ht', List.getElem?_toArray, List.getElem?_cons_zero, List.getElem?_cons_succ]
                refine (Ok.underlying hu).bind ?_
                refine (ok_getMap hB).bind ?_
                refine Ok.bind (a := ()) (w' := w) (by simpa using g1) ?_
                refine g5.bind ?_
                exact (ok_setMap hB).bind Ok.pure
              · cases hh
            · rename_i hf
              injection hh with hh
              obtain ⟨g1, g5⟩ := findA_ok (P := P) (w := w) hE hk hf
              refine fin (E' := E) hE hh.symm ?_
              unfold Builtin.delete_
              simp only [ht', List.getElem?_toArray, List.getElem?_cons_zero, List.getElem?_cons_succ]
              refine (Ok.underlying hu).bind ?_
              refine (ok_getMap hB).bind ?_
              refine Ok.bind (a := ()) (w' := w) (by simpa using g1) ?_
              refine g5.bind ?_
              exact (ok_setMap hB).bind Ok.pure
            · cases hh
          · cases hh
        · cases hh
      · cases hh
    · cases hh
  · cases hh

/-! ### clear -/
noncomputable def effClear (P : Program) (G : Nat) (c : Call) (ρ : PT AV) (h : Hp) : Option Hp := match argT c with
  | some t => match rd1 G ρ c.args.toList with
    | some (.sl b off len _ _ sz) => match slT P t with
      | some (e, s) => match len with
        | 0 => some h
        | _ + 1 => match zeroA P e with
          | some z => match Nat.beq s z.length && Nat.beq sz s with
            | true => hWrite G h b off (repA z len)
            | false => none
          | none => none
      | none => none
    | some .nilsl => match slT P t with
      | some _ => some h
      | none => none
    | _ => none
  | none => none
theorem zeroCells_rel {z : List AV} {zc : Array Value} (hr : RelL φ z zc.toList) (n : Nat) : RelL φ (repA z n) (Builtin.zeroCells zc n).toList := repA_rel hr n
theorem effClear_ok (e : EvRel G φ ρ ev) (r : SRel G φ h w) {o : Oper} {c h'} (ho : o.op = .call c) (hc : c.callee = .builtin .clear) (hh : effClear P G c ρ h = some h') : Does P G φ h w ev o skipV h' := by
  have fin : ∀ {v : Value} {w' : World}, c.args.map ev = #[v] → Ok P (Builtin.clear_ c.argTypes o.type #[v]) w (.tuple #[]) w' → Tr G φ h w φ h' w' → Does P G φ h w ev o skipV h' := fun hv hrun ht =>
    ⟨.value (.tuple #[]), .tuple #[], _, φ, by rw [exec_builtin ho hc, hv]; exact hrun.bind Ok.pure, .inl rfl, ht, unit_rel⟩
  unfold effClear at hh
  split at hh
  · rename_i t ht
    have ht' : c.argTypes[0]? = some t := ht
    split at hh
    · rename_i b off len lb ex sz hx
      obtain ⟨v, hv, hr⟩ := rd1_ok e hx
      simp only [RelV] at hr
      obtain ⟨p, j, C, hp, rfl, h1, h2, h3, h4, h5⟩ := hr
      split at hh
      · rename_i el s hs
        obtain ⟨hu, hsz⟩ := slT_ok hs
        split at hh
        · injection hh with hh
          subst hh
          refine fin hv ?_ (Tr.refl r)
          unfold Builtin.clear_
          simp only [ht', List.getElem?_toArray, List.getElem?_cons_zero]
          exact (Ok.underlying hu).bind Ok.pure
        · rename_i len
          split at hh
          · rename_i z hz
            split at hh
            · rename_i hb
              have hb : s = z.length ∧ sz = s := by simpa using hb
              obtain ⟨zv, g1, g2⟩ := zeroA_ok (w := w) (φ := φ) hz
              have hj := h5 (by omega)
              obtain ⟨w', g3, g4⟩ := write_ptr (P := P) r hh (zeroCells_rel g2 (len + 1)) hp (j := j) (.inr fun _ => hj.2)
              refine fin hv ?_ g4
              unfold Builtin.clear_
              simp only [ht', List.getElem?_toArray, List.getElem?_cons_zero]
              refine (Ok.underlying hu).bind (g1.bind (g3.bind ?_))
              exact Ok.pure
            · cases hh
          · cases hh
      · cases hh
    · rename_i hx
      obtain ⟨v, hv, hr⟩ := rd1_ok e hx
      simp only [RelV] at hr
      subst hr
      split at hh
      · rename_i es hs
        obtain ⟨hu, hsz⟩ := slT_ok (e := es.1) (s := es.2) hs
        injection hh with hh
        subst hh
        refine fin hv ?_ (Tr.refl r)
        unfold Builtin.clear_
        simp only [ht', List.getElem?_toArray, List.getElem?_cons_zero]
        exact (Ok.underlying hu).bind Ok.pure
      · cases hh
    · cases hh
  · cases hh

/-! ### copy -/
/-- the first n elements, of s cells each -/
noncomputable def srcA (h : Hp) (s n : Nat) (a : AV) : Option (List AV) := match a with
  | .nilsl => match Nat.beq n 0 with | true => some [] | false => none
  | .sl b off len _ _ sz => match Nat.beq sz s && Nat.ble n len with
    | true => hRead h b off (Nat.mul n s)
    | false => none
  | .str l => match Nat.beq s 1 && Nat.ble n l.length with
    | true => spine (intsA (l.take n))
    | false => none
  | _ => none
noncomputable def lenA (a : AV) : Option Nat := match a with
  | .nilsl => some 0
  | .sl _ _ len _ _ _ => some len
  | .str l => frc l.length fun n => some n
  | _ => none
theorem lenA_ok {a : AV} {v : Value} {n : Nat} (hr : RelV φ a v) (hh : lenA a = some n) : Ok P (Builtin.lenOf v) w n w := by
  unfold lenA at hh
  split at hh
  · injection hh with hh
    subst hh
    simp only [RelV] at hr
    subst hr
    exact Ok.pure
  · injection hh with hh
    subst hh
    simp only [RelV] at hr
    obtain ⟨p, j, C, hp, rfl, -⟩ := hr
    exact Ok.pure
  · rename_i l
    rw [frc_eq] at hh
    injection hh with hh
    subst hh
    simp only [RelV] at hr
    subst hr
    have : (⟨l.toArray⟩ : ByteArray).size = l.length := by simp [ByteArray.size]
    rw [← this]
    exact Ok.pure
  · cases hh
theorem srcA_ok (r : SRel G φ h w) {a : AV} {v : Value} {s n : Nat} {as : List AV} (hr : RelV φ a v) (hh : srcA h s n a = some as) : ∃ us : Array Value, RelL φ as us.toList ∧ Ok P (Builtin.firstCells s n v) w us w := by
  unfold srcA at hh
  split at hh
  · split at hh
    · injection hh with hh
      subst hh
      simp only [RelV] at hr
      subst hr
      exact ⟨#[], by simp, Ok.pure⟩
    · cases hh
  · rename_i b off len lb ex sz
    split at hh
    · rename_i hb
      have hb : sz = s ∧ n ≤ len := by simpa using hb
      obtain ⟨rfl, hn⟩ := hb
      simp only [RelV] at hr
      obtain ⟨p, j, C, hp, rfl, h1, h2, h3, h4, h5⟩ := hr
      obtain ⟨us, g1, g2⟩ := read_ptr (P := P) r hh hp (j := j) (by
        rcases Nat.eq_zero_or_pos n with h0 | h0
        · exact .inl (by show n * sz = 0; rw [h0]; simp)
        · exact .inr fun _ => (h5 (by omega)).2)
      exact ⟨us.toArray, by simpa using g1, g2⟩
    · cases hh
  · rename_i l
    split at hh
    · rename_i hb
      have hb : s = 1 ∧ n ≤ l.length := by simpa using hb
      rw [spine_eq] at hh
      injection hh with hh
      subst hh
      simp only [RelV] at hr
      subst hr
      refine ⟨(((⟨l.toArray⟩ : ByteArray).extract 0 n).data.map fun b => .int .u8 b.toNat), ?_, Ok.pure⟩
      have := intsA_rel (φ := φ) (l.take n)
      simpa [ByteArray.data_extract, List.extract_eq_take_drop] using this
    · cases hh
  · cases hh
noncomputable def effCopy (P : Program) (G : Nat) (c : Call) (ρ : PT AV) (h : Hp) : Option (AV × Hp) := match argT c with
  | some t => match slT P t with
    | some (_, s) => match rd2 G ρ c.args.toList with
      | some (d, x) => match lenA x with
        | some m => match d with
          | .nilsl => match srcA h s 0 x with
            | some _ => some (.int .i64 (.ofNat 0), h)
            | none => none
          | .sl b off len _ _ sz => match Nat.beq sz s with
            | true => frc (Nat.min m len) fun n => match srcA h s n x with
              | some as => match as with
                | [] => some (.int .i64 (.ofNat n), h)
                | as => match hWrite G h b off as with
                  | some h' => some (.int .i64 (.ofNat n), h')
                  | none => none
              | none => none
            | false => none
          | _ => none
        | none => none
      | none => none
    | none => none
  | none => none
theorem effCopy_ok (e : EvRel G φ ρ ev) (r : SRel G φ h w) {o : Oper} {c a h'} (ho : o.op = .call c) (hc : c.callee = .builtin .copy) (hh : effCopy P G c ρ h = some (a, h')) : Does P G φ h w ev o a h' := by
  unfold effCopy at hh
  split at hh
  · rename_i t ht
    have ht' : c.argTypes[0]? = some t := ht
    split at hh
    · rename_i el s hs
      obtain ⟨hu, hsz⟩ := slT_ok hs
      split at hh
      · rename_i d x hx
        obtain ⟨u, v, hargs, hd, hv⟩ := rd2_ok e hx
        split at hh
        · rename_i m hm
          have hlen := lenA_ok (P := P) (w := w) hv hm
          split at hh
          · simp only [RelV] at hd
            subst hd
            split at hh
            · rename_i as has
              simp only [Option.some.injEq, Prod.mk.injEq] at hh
              obtain ⟨rfl, rfl⟩ := hh
              obtain ⟨us, g1, g2⟩ := srcA_ok (P := P) r hv has
              refine ⟨.value (.int .i64 (0 : Nat)), .int .i64 (0 : Nat), w, φ, ?_, .inl rfl, Tr.refl r, by simp only [RelV]; rfl⟩
              rw [exec_builtin ho hc, hargs]
              refine Ok.bind (s := Builtin.copy_ c.argTypes o.type #[.slice none 0 0, v]) (a := .int .i64 (0 : Nat)) (w' := w) ?_ Ok.pure
              unfold Builtin.copy_
              simp only [ht', List.getElem?_toArray, List.getElem?_cons_zero, List.getElem?_cons_succ]
              refine (Ok.underlying hu).bind (hlen.bind ((ok_sizeOf hsz).bind ?_))
              rw [show Nat.min m 0 = 0 from Nat.min_zero m]
              exact g2.bind Ok.pure
            · cases hh
          · rename_i b off len lb ex sz
            simp only [RelV] at hd
            obtain ⟨p, j, C, hp, rfl, h1, h2, h3, h4, h5⟩ := hd
            split at hh
            · rw [frc_eq] at hh
              split at hh
              · rename_i as has
                obtain ⟨us, g1, g2⟩ := srcA_ok (P := P) r hv has
                have key : ∀ {h'' : Hp} {w' : World}, a = .int .i64 (.ofNat (Nat.min m len)) → h' = h'' → Ok P (storeCells ⟨p.B, j, none⟩ us.toList) w () w' → Tr G φ h w φ h'' w' → Does P G φ h w ev o a h' := fun e1 e2 hst htr => by
                  subst e1 e2
                  refine ⟨.value (.int .i64 (Nat.min m len : Nat)), .int .i64 (Nat.min m len : Nat), _, φ, ?_, .inl rfl, htr, by simp only [RelV]; rfl⟩
                  rw [exec_builtin ho hc, hargs]
                  refine Ok.bind (s := Builtin.copy_ c.argTypes o.type #[.slice (some ⟨p.B, j, none⟩) len C, v]) (a := .int .i64 (Nat.min m len : Nat)) ?_ Ok.pure
                  unfold Builtin.copy_
                  simp only [ht', List.getElem?_toArray, List.getElem?_cons_zero, List.getElem?_cons_succ]
                  refine (Ok.underlying hu).bind (hlen.bind ((ok_sizeOf hsz).bind (g2.bind ?_)))
                  exact hst.bind Ok.pure
                split at hh
                · simp only [Option.some.injEq, Prod.mk.injEq] at hh
                  have : us.toList = [] := relL_nil.1 g1
                  exact key hh.1.symm hh.2.symm (by rw [this]; exact Ok.pure) (Tr.refl r)
                · rename_i hne
                  split at hh
                  · rename_i h'' hw
                    simp only [Option.some.injEq, Prod.mk.injEq] at hh
                    obtain ⟨w', g3, g4⟩ := write_ptr (P := P) r hw g1 hp (j := j) (.inr fun _ => by
                      refine (h5 ?_).2
                      intro hC
                      have hl0 : len = 0 := by omega
                      have : Nat.min m len = 0 := by rw [hl0]; simp
                      rw [this] at g2
                      have hus : us.size = 0 := by
                        cases v <;> simp only [Builtin.firstCells] at g2
                        case slice q n c =>
                          cases q with
                          | none => have := g2; simp only [Ok, Pure.pure, Sem.run] at this; injection this with this; rw [← this]; rfl
                          | some A => rw [Nat.zero_mul] at g2; simp only [loadCells, loadCellsFrom, Ok, Pure.pure, Sem.run] at g2; injection g2 with g2; rw [← g2]; rfl
                        case string q => simp only [Ok, Pure.pure, Sem.run] at g2; injection g2 with g2; rw [← g2]; simp
                        all_goals (simp only [stuck, Ok, Sem.run] at g2; cases g2)
                      exact absurd (by
                        have := g1.length
                        simp [hus] at this
                        exact List.length_eq_zero_iff.1 this.symm) hne)
                    exact key hh.1.symm hh.2.symm g3 g4
                  · cases hh
              · cases hh
            · cases hh
          · cases hh
        · cases hh
      · cases hh
    · cases hh
  · cases hh

/-! ### iterators -/
noncomputable def effRange (P : Program) (G : Nat) (t : TypeId) (x : Operand) (ρ : PT AV) (h : Hp) : Option (AV × Hp) := match mapT P t with
  | some _ => match rd G ρ x with
    | some .nilmap => some (.ptr h.next 0, h.new (.iter none 0 [] 0))
    | some (.mp m) => match h.get m with
      | some (.map _ clock) => some (.ptr h.next 0, h.new (.iter (some m) clock [] clock))
      | _ => none
    | _ => none
  | none => none
theorem effRange_ok (e : EvRel G φ ρ ev) (r : SRel G φ h w) {o : Oper} {t x a h'} (ho : o.op = .range t x) (hh : effRange P G t x ρ h = some (a, h')) : Does P G φ h w ev o a h' := by
  have hex : execOp ev o = Instr.range t (ev x) >>= fun v => Pure.pure (.value v) := by simp only [execOp, ho]
  unfold effRange at hh
  split at hh
  · rename_i km hm
    have hu := mapT_ok (k := km.1) (e := km.2) hm
    have fin : ∀ {b : Blk} (ob : Obj), a = .ptr h.next 0 → h' = h.new b → RelO (φ.add h.next ⟨w.heap.size, 0, 0, 0⟩) b ob ⟨w.heap.size, 0, 0, 0⟩ →
        Ok P (Instr.range t (ev x)) w (.pointer (some ⟨w.heap.size, 0, none⟩)) { w with heap := w.heap.push ob } → Does P G φ h w ev o a h' := fun ob e1 e2 ho' hrun => by
      subst e1 e2
      refine ⟨.value (.pointer (some ⟨w.heap.size, 0, none⟩)), .pointer (some ⟨w.heap.size, 0, none⟩), { w with heap := w.heap.push ob }, _, ?_, .inl rfl, Tr.new_blk (p := ⟨w.heap.size, 0, 0, 0⟩) r rfl (Nat.le_refl _) rfl ho', rel_ptr Phi.add_same⟩
      rw [hex]
      exact hrun.bind Ok.pure
    split at hh
    · rename_i hx
      have hv := e _ _ hx
      simp only [RelV] at hv
      simp only [Option.some.injEq, Prod.mk.injEq] at hh
      refine fin (.mapIter none 0 #[] 0) hh.1.symm hh.2.symm ⟨rfl, rfl, none, rfl, rfl⟩ ?_
      unfold Instr.range
      refine (Ok.underlying hu).bind ?_
      rw [hv]
      exact (Ok.pure : Ok P (Pure.pure _) w _ w).bind rfl
    · rename_i m hx
      have hv := e _ _ hx
      simp only [RelV] at hv
      obtain ⟨p, hp, hv⟩ := hv
      split at hh
      · rename_i es clock hb
        obtain ⟨q, E, hq, hB, hE⟩ := map_of r hb
        rw [hp] at hq
        injection hq with hq
        subst hq
        simp only [Option.some.injEq, Prod.mk.injEq] at hh
        refine fin (.mapIter (some p.B) clock #[] clock) hh.1.symm hh.2.symm ⟨rfl, rfl, some p.B, rfl, p, Phi.sub_add r.next_none _ _ hp, rfl⟩ ?_
        unfold Instr.range
        refine (Ok.underlying hu).bind ?_
        rw [hv]
        refine (ok_getMap hB).bind ?_
        exact (Ok.pure : Ok P (Pure.pure _) w _ w).bind rfl
      · cases hh
    · cases hh
  · cases hh
end
end
section
section
variable {P : Program} {G : Nat} {φ : Phi} {h : Hp} {w : World} {ρ : PT AV} {ev : Operand → Value}

/-- a block goes on under a new number -/
theorem Tr.move {w' : World} (r : SRel G φ h w) {b : Nat} {x x' : Blk} {p p' : Pl} {ob' : Obj} (hG : G ≤ b) (hb : h.get b = some x) (hp : φ b = some p) (hB : p'.B = p.B) (hpo : p'.o ≤ p'.lo)
    (hw : w'.heap = w.heap.setIfInBounds p.B ob') (ho : RelO (φ.add h.next p') x' ob' p') (he : Env w w' := by exact ⟨rfl, rfl, rfl⟩) : Tr G φ h w (φ.add h.next p') ((h.kill b).new x') w' := by
  have hlt := r.size_lt hb hp
  have hn := r.next_none
  have hs := Phi.sub_add (p := p') hn
  have hbn : b ≠ h.next := Nat.ne_of_lt (r.get_lt hb)
  have old : ∀ {b' y}, ((h.kill b).new x').get b' = some y → b' ≠ h.next → b' ≠ b ∧ h.get b' = some y := fun {b' y} hb' hne => by
    rw [Hp.get_new, Hp.next_kill, if_neg hne, Hp.get_kill] at hb'
    by_cases e : b' = b
    · simp [e] at hb'
    · exact ⟨e, by rwa [if_neg e] at hb'⟩
  refine ⟨hs, ⟨⟨?_, ?_⟩, ?_, ?_, ?_⟩, by simp, ?_, by rw [hw]; simp, ?_, ?_, (Logs.kill h b).trans (.new _ x'), he⟩
  · intro b' y hb'
    by_cases e : b' = h.next
    · subst e
      rw [Hp.get_new, Hp.next_kill, if_pos rfl] at hb'
      injection hb' with hb'
      subst hb'
      refine ⟨p', ob', Phi.add_same, ?_, ho⟩
      rw [hw, hB]; simp [hlt]
    · obtain ⟨e1, hb'⟩ := old hb' e
      obtain ⟨q, o, h1, h2, h3⟩ := r.heap.blk b' y hb'
      refine ⟨q, o, hs _ _ h1, ?_, h3.mono hs⟩
      have hne : p.B ≠ q.B := fun he => e1 (r.heap.inj _ _ _ _ _ _ hb' hb h1 hp he.symm)
      rw [hw, Array.getElem?_setIfInBounds_ne hne]
      exact h2
  · intro b1 b2 y1 y2 q1 q2 h1 h2 hq1 hq2 e
    by_cases e1 : b1 = h.next <;> by_cases e2 : b2 = h.next
    · rw [e1, e2]
    · subst e1
      obtain ⟨k1, k2⟩ := old h2 e2
      rw [Phi.add_same] at hq1
      injection hq1 with hq1
      subst hq1
      rw [Phi.add_ne e2] at hq2
      exact absurd (r.heap.inj _ _ _ _ _ _ k2 hb hq2 hp (by rw [← e, hB])) k1
    · subst e2
      obtain ⟨k1, k2⟩ := old h1 e1
      rw [Phi.add_same] at hq2
      injection hq2 with hq2
      subst hq2
      rw [Phi.add_ne e1] at hq1
      exact absurd (r.heap.inj _ _ _ _ _ _ k2 hb hq1 hp (by rw [e, hB])) k1
    · obtain ⟨_, k1⟩ := old h1 e1
      obtain ⟨_, k2⟩ := old h2 e2
      rw [Phi.add_ne e1] at hq1
      rw [Phi.add_ne e2] at hq2
      exact r.heap.inj _ _ _ _ _ _ k1 k2 hq1 hq2 e
  · intro b' q hq
    rw [Hp.next_new, Hp.next_kill]
    by_cases e : b' = h.next
    · omega
    · rw [Phi.add_ne e] at hq
      have := r.lt _ _ hq
      omega
  · intro g hg
    obtain ⟨N, hN⟩ := r.glob g hg
    exact ⟨N, hs _ _ hN⟩
  · intro b' q hq
    by_cases e : b' = h.next
    · subst e
      rw [Phi.add_same] at hq
      injection hq with hq
      subst hq
      exact hpo
    · rw [Phi.add_ne e] at hq
      exact r.olo _ _ hq
  · intro b' e1 e2
    by_cases e : b' = h.next
    · omega
    · rw [Phi.add_ne e] at e2; exact absurd e1 e2
  · intro B hB' hl
    have hne : p.B ≠ B := fun he => hl ⟨b, x, p, hG, hb, hp, he⟩
    rw [hw, Array.getElem?_setIfInBounds_ne hne]
  · intro b' y q hb' hq
    by_cases e : b' = h.next
    · subst e
      rw [Phi.add_same] at hq
      injection hq with hq
      subst hq
      exact .inr ⟨Nat.le_refl _, .inr ⟨b, x, p, hG, hb, hp, hB.symm⟩⟩
    · exact .inl ⟨y, (old hb' e).2⟩

/-- the cells of a row are set, one behind the other -/
theorem storeRow_run {B : Nat} {e : TypeId} {fz : Nat × Nat} : ∀ {as : List AV} {vs : List Value} {w : World} {j idx : Nat} {c : Array Value}, RelL φ as vs → (∀ a ∈ as, leafA a = true) → w.heap[B]? = some (.cells c e fz) →
    j + idx + vs.length ≤ c.size → (∀ k, k < c.size → ¬(fz.1 ≤ k ∧ k < fz.2)) →
    ∃ c' : Array Value, Ok P (storeCells ⟨B, j, none⟩ vs idx) w () { w with heap := w.heap.setIfInBounds B (.cells c' e fz) } ∧ c'.size = c.size ∧ ∀ k, c'[k]? = if j + idx ≤ k ∧ k < j + idx + vs.length then vs[k - (j + idx)]? else c[k]?
  | [], vs, w, j, idx, c, hr, _, hB, hl, _ => by
    rw [relL_nil.1 hr]
    refine ⟨c, ?_, rfl, fun k => by rw [if_neg (by simp <;> omega)]⟩
    have hlt := (Array.getElem?_eq_some_iff.1 hB).1
    have : w.heap.setIfInBounds B (.cells c e fz) = w.heap := by
      apply Array.ext_getElem?
      intro k
      by_cases hk : B = k
      · subst hk; rw [Array.getElem?_setIfInBounds_self_of_lt hlt, hB]
      · rw [Array.getElem?_setIfInBounds_ne hk]
    rw [this]
    exact Ok.pure
  | a :: as, vs, w, j, idx, c, hr, hlf, hB, hl, hfz => by
    obtain ⟨v, vs, rfl, hv, hr⟩ := relL_cons.1 hr
    simp only [List.length_cons] at hl
    obtain ⟨o1, o2⟩ := leafA_one (hlf a (by simp)) hv
    have hlt : j + idx < c.size := by omega
    have hBlt := (Array.getElem?_eq_some_iff.1 hB).1
    have hc : w.cell? ⟨B, j + idx, none⟩ = some c[j + idx] := by rw [cell_of hB]; exact Array.getElem?_eq_getElem hlt
    have hf : w.frozen? ⟨B, j + idx, none⟩ = false := by
      simp only [World.frozen?, hB]
      have := hfz (j + idx) hlt
      simpa using this
    have hst := ok_store (P := P) o1 o2 hc hf
    have hheap : (w.setCell ⟨B, j + idx, none⟩ v).heap = w.heap.setIfInBounds B (.cells (c.setIfInBounds (j + idx) v) e fz) := by
      simp only [World.setCell]
      apply Array.ext_getElem?
      intro k
      rw [Array.getElem?_modify]
      by_cases hk : B = k
      · subst hk
        have hB' : w.heap[B] = .cells c e fz := (Array.getElem?_eq_some_iff.1 hB).2
        simp [hBlt, hB']
      · simp [hk]
    have hB1 : (w.setCell ⟨B, j + idx, none⟩ v).heap[B]? = some (.cells (c.setIfInBounds (j + idx) v) e fz) := by rw [hheap]; simp [hBlt]
    obtain ⟨c', g1, g2, g3⟩ := storeRow_run (j := j) (idx := idx + 1) hr (fun a ha => hlf a (by simp [ha])) hB1 (by simp; omega) (by simpa using hfz)
    refine ⟨c', ?_, by simpa using g2, ?_⟩
    · have hw : ({ w.setCell ⟨B, j + idx, none⟩ v with heap := (w.setCell ⟨B, j + idx, none⟩ v).heap.setIfInBounds B (.cells c' e fz) } : World) = { w with heap := w.heap.setIfInBounds B (.cells c' e fz) } := by
        rw [hheap]
        simp only [World.setCell, Array.setIfInBounds_setIfInBounds]
      rw [hw] at g1
      refine Ok.bind (a := ()) ?_ g1
      rw [addr_add]
      exact hst
    · intro k
      rw [g3]
      by_cases h1 : k = j + idx
      · subst h1
        rw [if_neg (by omega), if_pos (by simp)]
        simp [hlt]
      · by_cases h2 : j + (idx + 1) ≤ k ∧ k < j + (idx + 1) + vs.length
        · rw [if_pos h2, if_pos (by simp; omega), show k - (j + idx) = (k - (j + (idx + 1))) + 1 by omega]
          simp
        · rw [if_neg h2, if_neg (by simp; omega), Array.getElem?_setIfInBounds_ne (by omega)]

theorem growBy_le (newLen : Nat) : ∀ (rounds c : Nat), c ≤ newLen → Builtin.growBy newLen rounds c ≤ 2 * newLen + 768
  | 0, c, h => by unfold Builtin.growBy; omega
  | rounds + 1, c, h => by
    unfold Builtin.growBy
    split
    · omega
    · rename_i hc
      by_cases h2 : c + (c + 768) / 4 ≤ newLen
      · exact growBy_le newLen rounds _ h2
      · have : ∀ r, Builtin.growBy newLen r (c + (c + 768) / 4) = c + (c + 768) / 4 := by
          intro r
          cases r with
          | zero => rfl
          | succ r => unfold Builtin.growBy; rw [if_pos (by omega)]
        rw [this]
        omega
theorem nextslicecap_le {newLen oldCap : Nat} (h : oldCap < newLen) : Builtin.nextslicecap newLen oldCap ≤ 2 * newLen + 768 := by
  unfold Builtin.nextslicecap
  split
  · omega
  · split
    · omega
    · exact growBy_le _ _ _ (by omega)

/-! ### append -/
def intT (P : Program) (t : Option TypeId) : Option Bool := match t with
  | none => some false
  | some t => match P.underlying t with
    | some (.int _) => some true
    | some _ => some false
    | none => none
/-- what is appended: the cells, and how many elements -/
noncomputable def appSrc (P : Program) (h : Hp) (zeros : Bool) (e : TypeId) (s : Nat) (x : AV) : Option (Nat × List AV) := match zeros with
  | true => match x with
    | .int _ i => match i with
      | .ofNat n => match Nat.ble n 16777216 with
        | true => match zeroA P e with
          | some z => match Nat.beq z.length s with
            | true => match spine (repA z n) with
              | some l => frc n fun n => some (n, l)
              | none => none
            | false => none
          | none => none
        | false => none
      | _ => none
    | _ => none
  | false => match lenA x with
    | some n => match srcA h s n x with
      | some l => some (n, l)
      | none => none
    | none => none
noncomputable def leafAll (l : List AV) : Bool := List.rec (motive := fun _ => Bool) true (fun a _ ih => match leafA a with | true => ih | false => false) l
theorem leafAll_ok : ∀ {l : List AV}, leafAll l = true → ∀ a ∈ l, leafA a = true
  | [], _, a, ha => by simp at ha
  | x :: l, hh, a, ha => by
    have hh' : (match leafA x with | true => leafAll l | false => false) = true := hh
    split at hh'
    · rename_i hx
      rcases List.mem_cons.1 ha with rfl | ha
      · exact hx
      · exact leafAll_ok hh' a ha
    · cases hh'
/-- a row that goes on: the cells from off on, len elements of s cells, and the new ones behind them -/
noncomputable def goOn (e : TypeId) (off len s need : Nat) (z : List AV) (cs : PT AV) (new : List AV) : Blk :=
  frc (Nat.add off (Nat.mul len s)) fun i => frc (Nat.add off (Nat.mul need s)) fun n => (mkRow new i cs).frc fun cs' => .row e off n z cs'
theorem goOn_eq (e off len s need z cs new) : goOn e off len s need z cs new = .row e off (off + need * s) z (mkRow new (off + len * s) cs) := by
  unfold goOn; rw [frc_eq, frc_eq, PT.frc_eq]; rfl
noncomputable def appA (G : Nat) (e : TypeId) (s : Nat) (d : AV) (k : Nat) (new : List AV) (h : Hp) : Option (AV × Hp) := match d with
  | .nilsl => match k with
    | 0 => some (.nilsl, h)
    | k + 1 => some (.sl h.next 0 (Nat.succ k) (Nat.succ k) false s, h.new (rowOf e new))
  | .sl b off len lb ex sz => match Nat.beq sz s with
    | true => frc (Nat.add len k) fun need => match Nat.ble need lb with
      | true => match hWriteOr G h b (Nat.add off (Nat.mul len s)) new with
        | some h' => some (.sl b off need lb ex s, h')
        | none => none
      | false => match Nat.ble need 16777216 with
        | true => match ex with
          | true => match len with
            | 0 => some (.sl h.next 0 need need false s, h.new (rowOf e new))
            | _ + 1 => match h.get b with
              | some (.row _ lo n z cs) => match Nat.ble lo off && Nat.ble (Nat.add off (Nat.mul len s)) n with
                | true => some (.sl h.next off need need false s, h.new (goOn e off len s need z cs new))
                | false => none
              | _ => none
          | false => match h.get b with
            | some (.row e' lo n z cs) => match Nat.ble G b && (Nat.beq e' e && (Nat.ble lo off && (Nat.ble (Nat.add off (Nat.mul len s)) n && leafAll new))) with
              | true => some (.sl h.next off need need false s, (h.kill b).new (goOn e off len s need z cs new))
              | false => none
            | _ => none
        | false => none
    | false => none
  | _ => none
 where hWriteOr (G : Nat) (h : Hp) (b off : Nat) (new : List AV) : Option Hp := match new with
  | [] => some h
  | new => hWrite G h b off new
noncomputable def effAppend (P : Program) (G : Nat) (c : Call) (ρ : PT AV) (h : Hp) : Option (AV × Hp) := match argT c with
  | some t => match slT P t with
    | some (e, s) => match zeroA P e with
      | some z => match bytesT P e with
        | some by_ => match Nat.beq z.length s && (Nat.ble 1 s && (Nat.ble 1 by_ && Nat.ble by_ 65536)) with
          | true => match intT P c.argTypes[1]? with
            | some zeros => match rd2 G ρ c.args.toList with
              | some (d, x) => match appSrc P h zeros e s x with
                | some (k, new) => match Nat.ble k 16777216 with
                  | true => appA G e s d k new h
                  | false => none
                | none => none
              | none => none
            | none => none
          | false => none
        | none => none
      | none => none
    | none => none
  | none => none
theorem intT_ok {argTypes : Array TypeId} {zeros : Bool} (hh : intT P argTypes[1]? = some zeros) {β : Type} {K : Bool → Sem β} {b : β} {w' : World} (hk : Ok P (K zeros) w b w') :
    Ok P (match argTypes[1]? with
      | some xType => do
        let d ← underlying xType
        let zeros ← Pure.pure (d matches .int _)
        K zeros
      | none => do
        let zeros ← Pure.pure false
        K zeros) w b w' := by
  unfold intT at hh
  split at hh
  · rename_i hn
    injection hh with hh
    subst hh
    rw [hn]
    exact Ok.bind Ok.pure hk
  · rename_i t ht
    rw [ht]
    split at hh
    · rename_i k hu
      injection hh with hh
      subst hh
      exact (Ok.underlying hu).bind (Ok.bind Ok.pure hk)
    · rename_i d hne hu
      injection hh with hh
      subst hh
      refine (Ok.underlying hu).bind ?_
      split
      · exact absurd rfl (hne _)
      · exact Ok.bind Ok.pure hk
    · cases hh
theorem appSrc_ok (r : SRel G φ h w) {zeros : Bool} {e : TypeId} {s : Nat} {x : AV} {v : Value} {k : Nat} {new : List AV} (hr : RelV φ x v) (_hs : tsize P e = some s) {by_ : Nat} (hb : bytesT P e = some by_) (hb2 : by_ ≤ 65536)
    (hh : appSrc P h zeros e s x = some (k, new)) {β : Type} {K : Nat → Sem β} {X : Int → Sem β} {Y : Int → TypeInfo → Sem β} {b : β} {w' : World} (hk : Ok P (K k) w b w') :
    Ok P (if zeros = true then do
        let a ← asInt v
        if IntKind.i64.wrap a < 0 then X a
        else do
          let i ← typeInfo e
          if IntKind.i64.wrap a * i.bytes > 2 ^ 48 then Y a i
          else do
            let n ← Pure.pure (IntKind.i64.wrap a).toNat
            K n
      else do
        let n ← Builtin.lenOf v
        K n) w b w' ∧
    ∃ us : Array Value, RelL φ new us.toList ∧ us.size = k * s ∧ Ok P (if (!zeros) = true then Builtin.firstCells s k v else if k * s = 0 then Pure.pure #[] else do
        let z ← zeroValue e
        Pure.pure (Builtin.zeroCells z.cells k)) w us w := by
  unfold appSrc at hh
  split at hh
  · split at hh
    · rename_i kd i
      split at hh
      · rename_i n
        split at hh
        · rename_i hn
          have hn : n ≤ 16777216 := by simpa using hn
          split at hh
          · rename_i z hz
            split at hh
            · rename_i hzl
              have hzl : z.length = s := by simpa using hzl
              rw [spine_eq] at hh
              simp only [frc_eq, Option.some.injEq, Prod.mk.injEq] at hh
              obtain ⟨rfl, rfl⟩ := hh
              simp only [RelV] at hr
              subst hr
              obtain ⟨iT, hi, hib⟩ : ∃ i, P.info? e = some i ∧ i.bytes = by_ := by
                unfold bytesT at hb
                split at hb
                · rename_i i hi; injection hb with hb; exact ⟨i, hi, hb⟩
                · cases hb
              have hw1 := wrap_small (n := n) (by omega)
              refine ⟨?_, ?_⟩
              · simp only [if_true]
                refine Ok.bind (a := (n : Int)) (w' := w) ((Ok.pure : Ok P (Pure.pure (kd, Int.ofNat n)) w _ w).bind Ok.pure) ?_
                rw [hw1, if_neg (by omega)]
                refine (Ok.typeInfo hi).bind ?_
                have h5 : ((n * by_ : Nat) : Int) ≤ ((16777216 * 65536 : Nat) : Int) := Int.ofNat_le.2 (Nat.mul_le_mul hn hb2)
                rw [Int.natCast_mul] at h5
                rw [hib, if_neg (by
                  intro h6
                  have h7 : (2 : Int) ^ 48 = 281474976710656 := by decide
                  rw [h7] at h6
                  exact absurd (Int.lt_of_lt_of_le h6 h5) (by decide)), Int.toNat_natCast]
                exact Ok.bind Ok.pure hk
              · obtain ⟨zv, g1, g2⟩ := zeroA_ok (w := w) (φ := φ) hz
                have hzs : zv.cells.size = s := by rw [← hzl]; simpa using g2.length
                refine ⟨Builtin.zeroCells zv.cells n, zeroCells_rel g2 n, by simp [Builtin.zeroCells, hzs], ?_⟩
                simp only [Bool.not_true, Bool.false_eq_true, if_false]
                by_cases h0 : n * s = 0
                · rw [if_pos h0]
                  have : Builtin.zeroCells zv.cells n = #[] := by
                    apply Array.eq_empty_of_size_eq_zero
                    simp [Builtin.zeroCells, hzs, h0]
                  rw [this]
                  exact Ok.pure
                · rw [if_neg h0]
                  exact g1.bind Ok.pure
            · cases hh
          · cases hh
        · cases hh
      · cases hh
    · cases hh
  · split at hh
    · rename_i n hn
      split at hh
      · rename_i l hl
        simp only [Option.some.injEq, Prod.mk.injEq] at hh
        obtain ⟨rfl, rfl⟩ := hh
        obtain ⟨us, g1, g2⟩ := srcA_ok (P := P) r hr hl
        refine ⟨by simp only [Bool.false_eq_true, if_false]; exact (lenA_ok hr hn).bind hk, us, g1, ?_, by simp only [Bool.not_false, if_true]; exact g2⟩
        have hlen : us.size = l.length := by simpa using g1.length
        rw [hlen]
        unfold srcA at hl
        unfold lenA at hn
        split at hl
        · split at hl
          · rename_i h0
            injection hl with hl
            subst hl
            have : n = 0 := by simpa using h0
            simp [this]
          · cases hl
        · rename_i b off len lb ex sz
          simp only [Option.some.injEq] at hn
          split at hl
          · rename_i hbb
            have hbb : sz = s ∧ n ≤ len := by simpa using hbb
            unfold hRead at hl
            split at hl
            · exact (readN_spec hl).1
            · cases hl
          · cases hl
        · rename_i str
          simp only [frc_eq, Option.some.injEq] at hn
          split at hl
          · rename_i hbb
            have hbb : s = 1 ∧ n ≤ str.length := by simpa using hbb
            rw [spine_eq] at hl
            injection hl with hl
            subst hl
            rw [intsA_eq]
            simp [hbb.1, hbb.2]
          · cases hl
        · cases hl
      · cases hh
    · cases hh

def placed (P : Program) (base : Option Addr) (off : Nat) (us : List Value) (w w' : World) : Prop := match base with
  | some a => Ok P (storeCells (a.add off) us) w () w'
  | none => w' = w
/-- the models append at known types -/
theorem append_run (r : SRel G φ h w) {argTypes : Array TypeId} {ty t e : TypeId} {s by_ : Nat} {zeros : Bool} {x : AV} {base : Option Addr} {sLen sCap : Nat} {v : Value} {k : Nat} {new : List AV}
    (ht : argTypes[0]? = some t) (hu : P.underlying t = some (.slice e)) (hs : tsize P e = some s) (hb : bytesT P e = some by_) (hb2 : by_ ≤ 65536) (hz : intT P argTypes[1]? = some zeros)
    (hr : RelV φ x v) (hh : appSrc P h zeros e s x = some (k, new)) :
    (∃ us : Array Value, RelL φ new us.toList ∧ us.size = k * s ∧ ∀ w', sLen + k ≤ sCap → placed P base (sLen * s) us.toList w w' →
        Ok P (Builtin.append_ argTypes ty #[.slice base sLen sCap, v]) w (.slice base (sLen + k) sCap) w') ∧
    (∃ us : Array Value, RelL φ new us.toList ∧ us.size = k * s ∧ ∀ (old : Array Value) (z : List AV), ¬ sLen + k ≤ sCap → zeroA P e = some z → z.length = s → 1 ≤ by_ → sLen + k ≤ 33554432 → Ok P (Builtin.firstCells s sLen (.slice base sLen sCap)) { w with drawn := w.drawn + 1 } old { w with drawn := w.drawn + 1 } →
        ∃ cap rest, sLen + k ≤ cap ∧ rest.size = (cap - (sLen + k)) * s ∧ Ok P (Builtin.append_ argTypes ty #[.slice base sLen sCap, v]) w (.slice (some ⟨w.heap.size, 0, none⟩) (sLen + k) cap)
          { w with heap := w.heap.push (.cells (old ++ us ++ rest) e), drawn := w.drawn + 1 }) := by
  refine ⟨?_, ?_⟩
  · obtain ⟨-, us, g1, g2, g3⟩ := appSrc_ok r hr hs hb hb2 hh (K := fun _ => (Pure.pure () : Sem Unit)) (X := fun _ => Pure.pure ()) (Y := fun _ _ => Pure.pure ()) (w := w) (w' := w) Ok.pure
    refine ⟨us, g1, g2, ?_⟩
    intro w' hle hst
    unfold Builtin.append_
    simp only [ht, List.getElem?_toArray, List.getElem?_cons_zero, List.getElem?_cons_succ]
    refine (Ok.underlying hu).bind ?_
    refine (ok_sizeOf hs).bind ?_
    refine intT_ok hz ?_
    refine (appSrc_ok r hr hs hb hb2 hh ?_).1
    rw [if_pos hle]
    refine g3.bind ?_
    cases base with
    | some a => exact Ok.bind (a := ()) hst Ok.pure
    | none => have hst : w' = w := hst; subst hst; exact Ok.pure
  · obtain ⟨-, us, g1, g2, g3⟩ := appSrc_ok (r.of_heap (w' := { w with drawn := w.drawn + 1 }) rfl) hr hs hb hb2 hh (K := fun _ => (Pure.pure () : Sem Unit)) (X := fun _ => Pure.pure ()) (Y := fun _ _ => Pure.pure ()) (w' := { w with drawn := w.drawn + 1 }) Ok.pure
    refine ⟨us, g1, g2, ?_⟩
    intro old z hle hz1 hz2 hby hneed hold
    obtain ⟨iT, hi, hib⟩ : ∃ i, P.info? e = some i ∧ i.bytes = by_ := by
      unfold bytesT at hb
      split at hb
      · rename_i i hi; injection hb with hb; exact ⟨i, hi, hb⟩
      · cases hb
    obtain ⟨zv, z1, z2⟩ := zeroA_ok (w := { w with drawn := w.drawn + 1 }) (φ := φ) hz1
    have hzs : zv.cells.size = s := by rw [← hz2]; simpa using z2.length
    let q := Question.appendCap (sLen + k) sCap e
    let cap := q.cut (w.tape w.drawn q)
    have hcap : sLen + k ≤ cap := by
      show sLen + k ≤ sLen + k + w.tape w.drawn q % (2 ^ 63 - (sLen + k))
      omega
    refine ⟨cap, Builtin.zeroCells zv.cells (cap - (sLen + k)), hcap, by simp [Builtin.zeroCells, hzs], ?_⟩
    unfold Builtin.append_
    simp only [ht, List.getElem?_toArray, List.getElem?_cons_zero, List.getElem?_cons_succ]
    refine (Ok.underlying hu).bind ?_
    refine (ok_sizeOf hs).bind ?_
    refine intT_ok hz ?_
    refine (appSrc_ok r hr hs hb hb2 hh ?_).1
    rw [if_neg hle]
    refine (Ok.typeInfo hi).bind ?_
    rw [if_neg (by
      rintro ⟨h6, -⟩
      rw [show IntKind.i64.max = 9223372036854775807 from rfl] at h6
      omega)]
    refine (Ok.typeInfo hi).bind ?_
    have hns := nextslicecap_le (newLen := sLen + k) (oldCap := sCap) (by omega)
    rw [if_neg (by
      rw [hib]
      have h8 : Builtin.nextslicecap (sLen + k) sCap * by_ ≤ (2 * 33554432 + 768) * 65536 := Nat.mul_le_mul (by omega) hb2
      have h9 : (2 * 33554432 + 768) * 65536 ≤ 2 ^ 48 := by decide
      omega)]
    refine Ok.bind (a := cap) (w' := { w with drawn := w.drawn + 1 }) (by simp [Ok, choose, Sem.run, Question.forced, cap, q]) ?_
    refine (Ok.typeInfo hi).bind ?_
    refine Ok.bind (a := ()) (w' := { w with drawn := w.drawn + 1 }) ?_ ?_
    · unfold askRoom
      split
      · rfl
      · exact Ok.pure
    refine hold.bind ?_
    refine g3.bind ?_
    refine z1.bind ?_
    exact Ok.bind ok_newRow Ok.pure
end
end
section
section
variable {P : Program} {G : Nat} {φ : Phi} {h : Hp} {w : World} {ρ : PT AV} {ev : Operand → Value}
theorem cellA_val {z : List AV} {lo n : Nat} {cs : PT AV} {i : Nat} (h1 : lo ≤ i) (h2 : i < n) : cellA z lo n cs i = (match cs.get (Ps.of i) with | some v => some v | none => nth z (Nat.mod i z.length)) := by
  unfold cellA
  have e1 : Nat.ble lo i = true := by simpa using h1
  have e2 : Nat.blt i n = true := by simpa [Nat.blt] using Nat.succ_le_of_lt h2
  simp only [e1, e2]
  rfl
theorem goOn_rel {e : TypeId} {off len s need k lo n : Nat} {z : List AV} {cs : PT AV} {new : List AV} {c' : Array Value} {fz : Nat × Nat} {p' : Pl} (hlo : p'.lo = off) (hc : c'.size = p'.N) (hN : p'.o + need * s ≤ p'.N)
    (hnew : new.length = k * s) (hneed : need = len + k) (h1 : lo ≤ off) (h2 : off + len * s ≤ n)
    (hold : ∀ i a, off ≤ i → i < off + len * s → cellA z lo n cs i = some a → ∃ v, c'[p'.o + (i - off)]? = some v ∧ RelV φ a v)
    (hnw : ∀ i a, new[i]? = some a → ∃ v, c'[p'.o + len * s + i]? = some v ∧ RelV φ a v) (hfz : ∀ k, k < p'.N → ¬(fz.1 ≤ k ∧ k < fz.2)) :
    RelO φ (goOn e off len s need z cs new) (.cells c' e fz) p' := by
  rw [goOn_eq]
  have hns : need * s = len * s + k * s := by rw [hneed, Nat.add_mul]
  refine ⟨hlo.symm, c', fz, rfl, hc, by omega, ?_, hfz⟩
  intro i a hi
  obtain ⟨b1, b2⟩ := cellA_bounds hi
  rw [cellA_val b1 b2, mkRow_get] at hi
  by_cases hb : off + len * s ≤ i ∧ i < off + len * s + new.length
  · rw [if_pos hb] at hi
    have hlt : i - (off + len * s) < new.length := by omega
    rw [List.getElem?_eq_getElem hlt] at hi
    have hi' : new[i - (off + len * s)]? = some a := by rw [List.getElem?_eq_getElem hlt]; exact hi
    obtain ⟨v, g1, g2⟩ := hnw _ _ hi'
    refine ⟨v, ?_, g2⟩
    rw [show p'.o + (i - off) = p'.o + len * s + (i - (off + len * s)) by omega]
    exact g1
  · rw [if_neg hb] at hi
    have hlt : i < off + len * s := by omega
    rw [← cellA_val (lo := lo) (n := n) (by omega) (by omega)] at hi
    exact hold i a b1 hlt hi
/-- cells that stand there can be read -/
theorem load_all {B : Nat} {e : TypeId} {fz : Nat × Nat} {c : Array Value} (hB : w.heap[B]? = some (.cells c e fz)) (j : Nat) : ∀ (k i : Nat) (acc : Array Value), j + i + k ≤ c.size →
    Ok P (loadCellsFrom ⟨B, j, none⟩ i k acc) w (acc ++ c.extract (j + i) (j + i + k)) w
  | 0, i, acc, _ => by
    have : c.extract (j + i) (j + i + 0) = #[] := by simp; omega
    rw [this, Array.append_empty]
    exact Ok.pure
  | k + 1, i, acc, hl => by
    have hlt : j + i < c.size := by omega
    have h1 : Ok P (load ((⟨B, j, none⟩ : Addr).add i)) w c[j + i] w := by
      have : w.cell? (⟨B, j + i, none⟩ : Addr) = some c[j + i] := by rw [cell_of hB]; exact Array.getElem?_eq_getElem hlt
      rw [addr_add]
      simp [Ok, load, Sem.run, this]
    have h2 := load_all hB j k (i + 1) (acc.push c[j + i]) (by omega)
    have h3 : acc.push c[j + i] ++ c.extract (j + (i + 1)) (j + (i + 1) + k) = acc ++ c.extract (j + i) (j + i + (k + 1)) := by
      apply Array.toList_inj.1
      simp only [Array.toList_append, Array.toList_push, Array.toList_extract, List.extract_eq_take_drop, List.append_assoc]
      congr 1
      rw [show j + (i + 1) + k - (j + (i + 1)) = k by omega, show j + i + (k + 1) - (j + i) = k + 1 by omega]
      have : c.toList.drop (j + i) = c[j + i] :: c.toList.drop (j + (i + 1)) := by
        rw [show j + (i + 1) = j + i + 1 by omega]
        rw [← Array.getElem_toList]
        exact List.drop_eq_getElem_cons (by simpa using hlt)
      rw [this]
      simp
    rw [h3] at h2
    exact h1.bind h2
theorem effAppend_ok (e : EvRel G φ ρ ev) (r : SRel G φ h w) {o : Oper} {c a h'} (ho : o.op = .call c) (hc : c.callee = .builtin .append) (hh : effAppend P G c ρ h = some (a, h')) : Does P G φ h w ev o a h' := by
  unfold effAppend at hh
  split at hh
  · rename_i t ht
    have ht' : c.argTypes[0]? = some t := ht
    split at hh
    · rename_i el s hst
      obtain ⟨hu, hs⟩ := slT_ok hst
      split at hh
      · rename_i z hz
        split at hh
        · rename_i by_ hby
          split at hh
          · rename_i hchk
            have hchk : z.length = s ∧ 1 ≤ s ∧ 1 ≤ by_ ∧ by_ ≤ 65536 := by simpa using hchk
            obtain ⟨c1, c2, c3, c4⟩ := hchk
            split at hh
            · rename_i zeros hzer
              split at hh
              · rename_i d x hx
                obtain ⟨u, v, hargs, hd, hv⟩ := rd2_ok e hx
                split at hh
                · rename_i k new hsrc
                  split at hh
                  · rename_i hk
                    have hk : k ≤ 16777216 := by simpa using hk
                    have fin : ∀ {res : Value} {w' : World} {φ' : Phi}, Ok P (Builtin.append_ c.argTypes o.type #[u, v]) w res w' → Tr G φ h w φ' h' w' → RelV φ' a res → Does P G φ h w ev o a h' := fun hrun htr hrel =>
                      ⟨.value _, _, _, _, by rw [exec_builtin ho hc, hargs]; exact hrun.bind Ok.pure, .inl rfl, htr, hrel⟩
                    -- a new row of its own
                    have fresh : ∀ {base : Option Addr} {C : Nat} {len : Nat}, u = .slice base len C → len = 0 → C < len + k → a = .sl h.next 0 (len + k) (len + k) false s → h' = h.new (rowOf el new) → Does P G φ h w ev o a h' := fun {base C len} hu' hl hC ha hh' => by
                      subst hl ha hh'
                      obtain ⟨us, g1, g2, g3⟩ := (append_run (ty := o.type) (base := base) (sLen := 0) (sCap := C) r ht' hu hs hby c4 hzer hv hsrc).2
                      have hold : Ok P (Builtin.firstCells s 0 (.slice base 0 C)) { w with drawn := w.drawn + 1 } #[] { w with drawn := w.drawn + 1 } := by
                        cases base with
                        | none => exact Ok.pure
                        | some A => simp only [Builtin.firstCells, Nat.zero_mul]; exact Ok.pure
                      obtain ⟨cap, rest, q1, q2, q3⟩ := g3 #[] z (by omega) hz c1 c3 (by omega) hold
                      have hsz : (us ++ rest).size = cap * s := by
                        rw [Array.size_append, g2, q2, ← Nat.add_mul]; congr 1; omega
                      rw [Array.empty_append] at q3
                      subst hu'
                      refine fin (φ' := φ.add h.next ⟨w.heap.size, 0, 0, (us ++ rest).size⟩) q3 (Tr.new_blk r rfl (Nat.le_refl _) rfl ?_) ?_
                      · exact rel_rowOf (fz := (0, 0)) (g1.mono (Phi.sub_add r.next_none)) (fun k _ => by simp)
                      · simp only [RelV]
                        exact ⟨_, 0, cap, Phi.add_same, rfl, Nat.le_refl _, q1, fun hc => absurd hc (by simp), by show 0 + cap * s ≤ (us ++ rest).size; rw [hsz]; omega, fun _ => ⟨Nat.le_refl _, rfl⟩⟩
                    unfold appA at hh
                    split at hh
                    · -- nil
                      simp only [RelV] at hd
                      split at hh
                      · simp only [Option.some.injEq, Prod.mk.injEq] at hh
                        obtain ⟨rfl, rfl⟩ := hh
                        subst hd
                        obtain ⟨us, g1, g2, g3⟩ := (append_run (ty := o.type) (base := none) (sLen := 0) (sCap := 0) r ht' hu hs hby c4 hzer hv hsrc).1
                        exact fin (g3 w (Nat.le_refl _) rfl) (Tr.refl r) (by simp only [RelV])
                      · simp only [Option.some.injEq, Prod.mk.injEq] at hh
                        exact fresh hd rfl (by omega) (by rw [← hh.1]; simp) hh.2.symm
                    · -- a slice
                      rename_i b off len lb ex sz
                      simp only [RelV] at hd
                      obtain ⟨p, j, C, hp, hd, h1, h2, h3, h4, h5⟩ := hd
                      split at hh
                      · rename_i hsz
                        have hsz : sz = s := by simpa using hsz
                        subst hsz
                        rw [frc_eq] at hh
                        split at hh
                        · -- in place, for sure
                          rename_i hle
                          have hle : len + k ≤ lb := by simpa using hle
                          split at hh
                          · rename_i h'' hw
                            simp only [Option.some.injEq, Prod.mk.injEq] at hh
                            obtain ⟨rfl, rfl⟩ := hh
                            obtain ⟨us, g1, g2, g3⟩ := (append_run (ty := o.type) (base := some ⟨p.B, j, none⟩) (sLen := len) (sCap := C) r ht' hu hs hby c4 hzer hv hsrc).1
                            have hrel : RelV φ (.sl b off (Nat.add len k) lb ex sz) (.slice (some ⟨p.B, j, none⟩) (len + k) C) := by
                              simp only [RelV]
                              exact ⟨p, j, C, hp, rfl, hle, h2, h3, h4, h5⟩
                            subst hd
                            unfold appA.hWriteOr at hw
                            split at hw
                            · injection hw with hw
                              subst hw
                              refine fin (g3 w (by omega) ?_) (Tr.refl r) hrel
                              rw [relL_nil.1 g1]
                              exact (Ok.pure : Ok P (Pure.pure ()) w () w)
                            · rename_i hne
                              have hk0 : 0 < k := by
                                rcases Nat.eq_zero_or_pos k with h0 | h0
                                · exfalso
                                  rw [h0, Nat.zero_mul] at g2
                                  have := g1.length
                                  simp [g2] at this
                                  exact hne (List.length_eq_zero_iff.1 this.symm)
                                · exact h0
                              obtain ⟨q1, q2⟩ := h5 (by omega)
                              obtain ⟨w', q3, q4⟩ := write_ptr (P := P) r hw g1 hp (j := j + len * sz) (.inr fun _ => by rw [q2]; show p.o + (off - p.lo) + len * sz = p.o + (off + len * sz - p.lo); omega)
                              refine fin (g3 w' (by omega) ?_) q4 (hrel.mono q4.sub)
                              unfold placed
                              simp only [addr_add]
                              exact q3
                          · cases hh
                        · rename_i hnle
                          have hnle : ¬ len + k ≤ lb := by
                            intro hc
                            have : Nat.ble (Nat.add len k) lb = true := by simpa using hc
                            rw [this] at hnle
                            cases hnle
                          split at hh
                          · rename_i hneed
                            have hneed : len + k ≤ 16777216 := by simpa using hneed
                            -- a row that goes on elsewhere
                            have realloc : ∀ {lo n : Nat} {cs : PT AV} {e' : TypeId} {z' : List AV} (hb : h.get b = some (.row e' lo n z' cs)), lo ≤ off → off + len * sz ≤ n → C < len + k → (C ≠ 0 ∨ len = 0) → Ok P (Builtin.append_ c.argTypes o.type #[u, v]) = Ok P (Builtin.append_ c.argTypes o.type #[u, v]) →
                                ∃ φ' w' res, Ok P (Builtin.append_ c.argTypes o.type #[u, v]) w res w' ∧ RelV φ' (.sl h.next off (len + k) (len + k) false sz) res ∧ ∃ p' ob, φ' = φ.add h.next p' ∧ p'.B = w.heap.size ∧ p'.o ≤ p'.lo ∧ w'.heap = w.heap.push ob ∧ Env w w' ∧ RelO φ' (goOn el off len sz (len + k) z' cs new) ob p' := fun {lo n cs e' z'} hb g1 g2 hC hC0 _ => by
                              obtain ⟨p0, cc, fz, hp0, hB, r1, r2, r3, r4, r5⟩ := row_of r hb
                              rw [hp] at hp0
                              injection hp0 with hp0
                              subst hp0
                              have hjN : j + len * sz ≤ cc.size := by
                                have : len * sz ≤ C * sz := Nat.mul_le_mul_right _ (by omega)
                                omega
                              obtain ⟨us, q1, q2, q3⟩ := (append_run (ty := o.type) (base := some ⟨p.B, j, none⟩) (sLen := len) (sCap := C) r ht' hu hs hby c4 hzer hv hsrc).2
                              have hold := load_all (P := P) (w := { w with drawn := w.drawn + 1 }) (B := p.B) (c := cc) (e := e') (fz := fz) hB j (len * sz) 0 #[] (by omega)
                              rw [Array.empty_append, Nat.add_zero] at hold
                              obtain ⟨cap, rest, q4, q5, q6⟩ := q3 (cc.extract j (j + len * sz)) z (by omega) hz c1 c3 (by omega) hold
                              have hos : (cc.extract j (j + len * sz)).size = len * sz := by simp; omega
                              have hsz : (cc.extract j (j + len * sz) ++ us ++ rest).size = cap * sz := by
                                rw [Array.size_append, Array.size_append, hos, q2, q5, ← Nat.add_mul, ← Nat.add_mul]; congr 1; omega
                              subst hd
                              refine ⟨φ.add h.next ⟨w.heap.size, 0, off, cap * sz⟩, _, _, q6, ?_, ⟨w.heap.size, 0, off, cap * sz⟩, _, rfl, rfl, Nat.zero_le _, rfl, ⟨rfl, rfl, rfl⟩, ?_⟩
                              · simp only [RelV]
                                exact ⟨_, 0, cap, Phi.add_same, rfl, Nat.le_refl _, q4, fun hc => absurd hc (by simp), by simp, fun _ => ⟨Nat.le_refl _, by simp⟩⟩
                              · have hsub := Phi.sub_add (p := (⟨w.heap.size, 0, off, cap * sz⟩ : Pl)) r.next_none
                                refine goOn_rel (k := k) (lo := lo) (n := n) rfl hsz (by simp; exact Nat.mul_le_mul_right _ q4) (by have := q1.length; simp [q2] at this; exact this.symm) rfl g1 g2 ?_ ?_ (fun k _ => by simp)
                                · intro i a i1 i2 ha
                                  obtain ⟨vv, v1, v2⟩ := r4 _ _ ha
                                  refine ⟨vv, ?_, v2.mono hsub⟩
                                  have hlen0 : len ≠ 0 := by
                                    intro h0; rw [h0, Nat.zero_mul] at i2; omega
                                  obtain ⟨_, q8⟩ := h5 (hC0.resolve_right hlen0)
                                  simp only [Nat.zero_add]
                                  rw [Array.append_assoc, Array.getElem?_append_left (by rw [hos]; omega), Array.getElem?_extract]
                                  rw [if_pos (by omega)]
                                  rw [show j + (i - off) = p.o + (i - lo) by rw [r1]; rw [r1] at g1; omega]
                                  exact v1
                                · intro i a ha
                                  obtain ⟨vv, v1, v2⟩ := q1.get ha
                                  refine ⟨vv, ?_, v2.mono hsub⟩
                                  have v1' : us[i]? = some vv := by simpa using v1
                                  have hlt : i < us.size := (Array.getElem?_eq_some_iff.1 v1').1
                                  simp only [Nat.zero_add]
                                  rw [Array.append_assoc, Array.getElem?_append_right (by rw [hos]; omega), hos, show len * sz + i - len * sz = i by omega, Array.getElem?_append_left hlt]
                                  exact v1'
                            split at hh
                            · -- the capacity is known
                              have hCl := h3 rfl
                              cases len with
                              | zero =>
                                simp only [Option.some.injEq, Prod.mk.injEq] at hh
                                exact fresh hd rfl (by omega) hh.1.symm hh.2.symm
                              | succ len =>
                                simp only at hh
                                split at hh
                                · rename_i e' lo n z' cs hb
                                  split at hh
                                  · rename_i hbb
                                    have hbb : lo ≤ off ∧ off + (len + 1) * sz ≤ n := by simpa using hbb
                                    simp only [Option.some.injEq, Prod.mk.injEq] at hh
                                    obtain ⟨rfl, rfl⟩ := hh
                                    obtain ⟨φ', w', res, k1, k2, p', ob, rfl, k4, k5, k6, ke, k7⟩ := realloc hb hbb.1 hbb.2 (by omega) (.inl (by omega)) rfl
                                    exact fin k1 (Tr.new_blk r k4 k5 k6 k7 ke) k2
                                  · cases hh
                                · cases hh
                            · -- it is not
                              split at hh
                              · rename_i e' lo n z' cs hb
                                split at hh
                                · rename_i hbb
                                  have hbb : G ≤ b ∧ e' = el ∧ lo ≤ off ∧ off + len * sz ≤ n ∧ leafAll new = true := by simpa using hbb
                                  obtain ⟨b1, rfl, b2, b3, b4⟩ := hbb
                                  simp only [Option.some.injEq, Prod.mk.injEq] at hh
                                  obtain ⟨rfl, rfl⟩ := hh
                                  by_cases hC : len + k ≤ C
                                  · -- in place
                                    obtain ⟨p0, cc, fz, hp0, hB, r1, r2, r3, r4, r5⟩ := row_of r hb
                                    rw [hp] at hp0
                                    injection hp0 with hp0
                                    subst hp0
                                    obtain ⟨us, q1, q2, q3⟩ := (append_run (ty := o.type) (base := some ⟨p.B, j, none⟩) (sLen := len) (sCap := C) r ht' hu hs hby c4 hzer hv hsrc).1
                                    obtain ⟨q7, q8⟩ := h5 (by omega)
                                    have hCs : (len + k) * sz ≤ C * sz := Nat.mul_le_mul_right _ hC
                                    rw [Nat.add_mul] at hCs
                                    obtain ⟨c', m1, m2, m3⟩ := storeRow_run (P := P) (w := w) (B := p.B) (j := j + len * sz) (idx := 0) (c := cc) q1 (leafAll_ok b4) hB (by simp [q2]; omega) (by rw [r2]; exact r5)
                                    subst hd
                                    have hsub := Phi.sub_add (p := (⟨p.B, j, off, p.N⟩ : Pl)) r.next_none
                                    refine fin (q3 _ hC (by unfold placed; simp only [addr_add]; exact m1)) (Tr.move (p' := ⟨p.B, j, off, p.N⟩) r b1 hb hp rfl (by show j ≤ off; have := r.olo _ _ hp; omega) rfl ?_) ?_
                                    · refine goOn_rel (k := k) (lo := lo) (n := n) rfl (by rw [m2]; exact r2) (by show j + (len + k) * sz ≤ p.N; rw [Nat.add_mul]; omega) (by have := q1.length; simp [q2] at this; exact this.symm) rfl b2 b3 ?_ ?_ r5
                                      · intro i a i1 i2 ha
                                        obtain ⟨vv, v1, v2⟩ := r4 _ _ ha
                                        refine ⟨vv, ?_, v2.mono hsub⟩
                                        show c'[j + (i - off)]? = _
                                        rw [m3, if_neg (by omega), show j + (i - off) = p.o + (i - lo) by rw [r1]; rw [r1] at b2; omega]
                                        exact v1
                                      · intro i a ha
                                        obtain ⟨vv, v1, v2⟩ := q1.get ha
                                        refine ⟨vv, ?_, v2.mono hsub⟩
                                        have hlt : i < us.toList.length := (List.getElem?_eq_some_iff.1 v1).1
                                        show c'[j + len * sz + i]? = _
                                        rw [m3, if_pos (by omega), show j + len * sz + i - (j + len * sz + 0) = i by omega]
                                        exact v1
                                    · simp only [RelV]
                                      exact ⟨_, j, C, Phi.add_same, rfl, Nat.le_refl _, hC, fun hc => absurd hc (by simp), h4, fun _ => ⟨Nat.le_refl _, by simp⟩⟩
                                  · -- elsewhere
                                    have hC0 : C ≠ 0 ∨ len = 0 := by omega
                                    obtain ⟨φ', w', res, k1, k2, p', ob, rfl, k4, k5, k6, ke, k7⟩ := realloc hb b2 b3 (by omega) hC0 rfl
                                    have t1 := Tr.kill r b
                                    have t2 := Tr.new_blk (w' := w') t1.rel (x := goOn e' off len sz (len + k) z' cs new) (ob := ob) (p := p') k4 k5 k6 (by rw [Hp.next_kill]; exact k7) ke
                                    rw [Hp.next_kill] at t2
                                    exact fin k1 (t1.trans r t2) k2
                                · cases hh
                              · cases hh
                          · cases hh
                      · cases hh
                    · cases hh
                  · cases hh
                · cases hh
              · cases hh
            · cases hh
          · cases hh
        · cases hh
      · cases hh
    · cases hh
  · cases hh
end
end
section
section
variable {P : Program} {G : Nat} {φ : Phi} {h : Hp} {w : World} {ρ : PT AV} {ev : Operand → Value}
/-- a block is changed in a way that is not followed, and forgotten -/
theorem Tr.drop {w' : World} (r : SRel G φ h w) {b : Nat} {x : Blk} {p : Pl} {ob' : Obj} (hG : G ≤ b) (hb : h.get b = some x) (hp : φ b = some p)
    (hw : w'.heap = w.heap.setIfInBounds p.B ob') (he : Env w w' := by exact ⟨rfl, rfl, rfl⟩) : Tr G φ h w φ (h.kill b) w' := by
  have old : ∀ {b' y}, (h.kill b).get b' = some y → b' ≠ b ∧ h.get b' = some y := fun {b' y} hb' => by
    rw [Hp.get_kill] at hb'
    by_cases e : b' = b
    · simp [e] at hb'
    · exact ⟨e, by rwa [if_neg e] at hb'⟩
  refine ⟨.refl _, ⟨⟨?_, ?_⟩, by rw [Hp.next_kill]; exact r.lt, r.glob, r.olo⟩, by simp, fun b e1 e2 => absurd e1 e2, by rw [hw]; simp, ?_, ?_, .kill h b, he⟩
  · intro b' y hb'
    obtain ⟨e1, hb'⟩ := old hb'
    obtain ⟨q, o, h1, h2, h3⟩ := r.heap.blk b' y hb'
    refine ⟨q, o, h1, ?_, h3⟩
    have hne : p.B ≠ q.B := fun he => e1 (r.heap.inj _ _ _ _ _ _ hb' hb h1 hp he.symm)
    rw [hw, Array.getElem?_setIfInBounds_ne hne]
    exact h2
  · intro b1 b2 y1 y2 q1 q2 h1 h2
    exact r.heap.inj _ _ _ _ _ _ (old h1).2 (old h2).2
  · intro B hB' hl
    have hne : p.B ≠ B := fun he => hl ⟨b, x, p, hG, hb, hp, he⟩
    rw [hw, Array.getElem?_setIfInBounds_ne hne]
  · intro b' y q hb' _
    exact .inl ⟨y, (old hb').2⟩
def pelT (P : Program) (t : TypeId) : Option TypeId := match P.underlying t with
  | some (.pointer e) => some e
  | _ => none
noncomputable def effString (P : Program) (G : Nat) (c : Call) (ρ : PT AV) (h : Hp) : Option (AV × Hp) := match rd2 G ρ c.args.toList with
  | some (.ptr b off, .int _ (.ofNat n)) => match n with
    | 0 => match argT c with | some _ => some (.str [], h) | none => none
    | n + 1 => match argT c with
      | some t => match pelT P t with
        | some e => match tsize P e with
          | some 1 => match Nat.ble G b && Nat.ble n 4294967296 with
            | true => match h.get b with
              | some (.row e' lo m _ _) => match Nat.beq e' e && (Nat.ble lo off && Nat.ble (Nat.add off (Nat.succ n)) m) with
                | true => match hRead h b off (Nat.succ n) with
                  | some as => match bytesA as with
                    | some s => some (.str s, h.kill b)
                    | none => none
                  | none => none
                | false => none
              | _ => none
            | false => none
          | _ => none
        | none => none
      | none => none
  | some (.nilptr, .int _ (.ofNat 0)) => match argT c with | some _ => some (.str [], h) | none => none
  | _ => none
theorem loadBytes_run : ∀ {as : List AV} {s : List UInt8} {B j : Nat} {acc : ByteArray}, bytesA as = some s → (∀ i a, as[i]? = some a → ∃ v, w.cell? ⟨B, j + i, none⟩ = some v ∧ RelV φ a v) →
    Ok P (loadBytes ⟨B, j, none⟩ acc as.length) w (s.foldl ByteArray.push acc) w
  | [], s, B, j, acc, hs, _ => by
    have : some [] = some s := hs
    injection this with this
    subst this
    exact Ok.pure
  | a :: as, s, B, j, acc, hs, hc => by
    obtain ⟨m, s', rfl, hs', rfl⟩ := bytesA_cons hs
    obtain ⟨v, hv, hr⟩ := hc 0 (.int .u8 (Int.ofNat m)) rfl
    simp only [RelV] at hr
    subst hr
    have h1 : Ok P (load ⟨B, j, none⟩) w (.int .u8 (Int.ofNat m)) w := by
      have hv' : w.cell? (⟨B, j, none⟩ : Addr) = some (.int .u8 (Int.ofNat m)) := by simpa using hv
      simp [Ok, load, Sem.run, hv']
    refine h1.bind ?_
    show Ok P (loadBytes ((⟨B, j, none⟩ : Addr).add 1) (acc.push (Int.ofNat m).toNat.toUInt8) as.length) w _ w
    rw [addr_add]
    exact loadBytes_run hs' (fun i a hi => by
      obtain ⟨v, g1, g2⟩ := hc (i + 1) a (by simpa using hi)
      exact ⟨v, by rw [show j + 1 + i = j + (i + 1) by omega]; exact g1, g2⟩)
theorem effString_ok (e : EvRel G φ ρ ev) (r : SRel G φ h w) {o : Oper} {c a h'} (ho : o.op = .call c) (hc : c.callee = .builtin .unsafeString) (hh : effString P G c ρ h = some (a, h')) : Does P G φ h w ev o a h' := by
  have fin : ∀ {u v : Value} {s : ByteArray} {w' : World}, c.args.map ev = #[u, v] → Ok P (Builtin.unsafeString_ c.argTypes o.type #[u, v]) w (.string s) w' → Tr G φ h w φ h' w' → RelV φ a (.string s) → Does P G φ h w ev o a h' := fun hv hrun ht hr =>
    ⟨.value _, _, _, φ, by rw [exec_builtin ho hc, hv]; exact hrun.bind Ok.pure, .inl rfl, ht, hr⟩
  unfold effString at hh
  split at hh
  · rename_i b off k n hx
    obtain ⟨u, v, hargs, hu, hv⟩ := rd2_ok e hx
    simp only [RelV] at hu hv
    obtain ⟨p, hp, hlo, rfl⟩ := hu
    subst hv
    cases n with
    | zero =>
      simp only at hh
      split at hh
      · rename_i t ht
        have ht' : c.argTypes[0]? = some t := ht
        simp only [Option.some.injEq, Prod.mk.injEq] at hh
        obtain ⟨rfl, rfl⟩ := hh
        refine fin (s := .empty) hargs ?_ (Tr.refl r) (by simp only [RelV]; rfl)
        unfold Builtin.unsafeString_
        refine Ok.bind (a := (0 : Int)) (w' := w) ((Ok.pure : Ok P (Pure.pure (k, Int.ofNat 0)) w _ w).bind Ok.pure) ?_
        simp only [ht']
        exact Ok.pure
      · cases hh
    | succ n =>
      simp only at hh
      split at hh
      · rename_i t ht
        have ht' : c.argTypes[0]? = some t := ht
        split at hh
        · rename_i el hel
          have hpe : P.underlying t = some (.pointer el) := by
            unfold pelT at hel
            split at hel
            · injection hel with hel; subst hel; assumption
            · cases hel
          split at hh
          · rename_i hsz
            split at hh
            · rename_i hgn
              have hgn : G ≤ b ∧ n ≤ 4294967296 := by simpa using hgn
              split at hh
              · rename_i e' lo m z cs hb
                split at hh
                · rename_i hbb
                  have hbb : e' = el ∧ lo ≤ off ∧ off + (n + 1) ≤ m := by simpa using hbb
                  obtain ⟨rfl, b1, b2⟩ := hbb
                  split at hh
                  · rename_i as has
                    split at hh
                    · rename_i s hs
                      simp only [Option.some.injEq, Prod.mk.injEq] at hh
                      obtain ⟨rfl, rfl⟩ := hh
                      obtain ⟨p', cc, fz, hp', hB, h1, h2, h3, h4, h5⟩ := row_of r hb
                      rw [hp] at hp'
                      injection hp' with hp'
                      subst hp'
                      have hrd : readN z lo m cs (n + 1) off = some as := by
                        unfold hRead at has
                        rw [hb] at has
                        exact has
                      obtain ⟨hlen, hcell⟩ := readN_spec hrd
                      have hload := loadBytes_run (P := P) (w := w) (φ := φ) (B := p.B) (j := p.o + (off - p.lo)) (acc := .empty) hs (fun i a hi => by
                        obtain ⟨v, g1, g2⟩ := h4 _ _ (hcell i a hi)
                        refine ⟨v, ?_, g2⟩
                        rw [cell_of hB, show p.o + (off - p.lo) + i = p.o + (off + i - lo) by rw [h1] at b1 ⊢; omega]
                        exact g1)
                      rw [hlen, push_all] at hload
                      let w' := w.freeze ⟨p.B, p.o + (off - p.lo), none⟩ (n + 1)
                      have hw' : w'.heap = w.heap.setIfInBounds p.B (.cells cc e' (if fz.1 == fz.2 then (p.o + (off - p.lo), p.o + (off - p.lo) + (n + 1)) else (min fz.1 (p.o + (off - p.lo)), max fz.2 (p.o + (off - p.lo) + (n + 1))))) := by
                        simp only [w', World.freeze, Nat.succ_ne_zero, if_false]
                        apply Array.ext_getElem?
                        intro q
                        have hBlt := (Array.getElem?_eq_some_iff.1 hB).1
                        have hB' : w.heap[p.B] = .cells cc e' fz := (Array.getElem?_eq_some_iff.1 hB).2
                        rw [Array.getElem?_modify]
                        by_cases hq : p.B = q
                        · subst hq
                          simp [hBlt, hB']
                        · simp [hq]
                      refine fin (w' := w') (s := ⟨s.toArray⟩) hargs ?_ (Tr.drop r hgn.1 hb hp hw') (by simp only [RelV])
                      unfold Builtin.unsafeString_
                      refine Ok.bind (a := ((n + 1 : Nat) : Int)) (w' := w) ((Ok.pure : Ok P (Pure.pure (k, Int.ofNat (n + 1))) w _ w).bind Ok.pure) ?_
                      simp only [ht']
                      rw [if_neg (by omega), if_neg (by rw [show IntKind.i64.max = 9223372036854775807 from rfl]; omega)]
                      rw [if_neg (by omega)]
                      refine Ok.bind (a := e') (w' := w) ?_ ?_
                      · unfold elemOf
                        exact (Ok.underlying hpe).bind Ok.pure
                      · have hva := variablesAt_row (P := P) hB hsz (by omega) (j := p.o + (off - p.lo)) (k := p.o + (off - p.lo)) (by omega) (n := n + 1) (by rw [h1] at h3 b1; omega)
                        simp only [Int.toNat_natCast]
                        refine hva.bind ?_
                        simp only [if_true]
                        have hload' : Ok P (loadBytes ⟨p.B, p.o + (off - p.lo), none⟩ .empty (n + 1)) w ⟨s.toArray⟩ w := by
                          rw [show (ByteArray.empty.data.toList ++ s) = s from rfl] at hload
                          exact hload
                        refine hload'.bind ?_
                        refine Ok.bind (a := ()) (w' := w') rfl Ok.pure
                    · cases hh
                  · cases hh
                · cases hh
              · cases hh
            · cases hh
          · cases hh
        · cases hh
      · cases hh
  · rename_i k hx
    obtain ⟨u, v, hargs, hu, hv⟩ := rd2_ok e hx
    simp only [RelV] at hu hv
    subst hu hv
    split at hh
    · rename_i t ht
      have ht' : c.argTypes[0]? = some t := ht
      simp only [Option.some.injEq, Prod.mk.injEq] at hh
      obtain ⟨rfl, rfl⟩ := hh
      refine fin (s := .empty) hargs ?_ (Tr.refl r) (by simp only [RelV]; rfl)
      unfold Builtin.unsafeString_
      refine Ok.bind (a := (0 : Int)) (w' := w) ((Ok.pure : Ok P (Pure.pure (k, Int.ofNat 0)) w _ w).bind Ok.pure) ?_
      simp only [ht']
      exact Ok.pure
    · cases hh
  · cases hh
end
end
section
section
variable {P : Program} {G : Nat} {φ : Phi} {h : Hp} {w : World} {ρ : PT AV} {ev : Operand → Value}
inductive Ext | body | idx | cnt | same | mnz (t : TypeId) | no
def extOf (P : Program) (f : FuncId) : Ext := match P.funcs[f]? with
  | some fn => match fn.name == "runtime.NumGoroutine" with
    | true => .no
    | false => match fn.body with
      | some _ => .body
      | none => match fn.origin == "" with
        | true => match fn.name == "internal/bytealg.IndexByteString" with
          | true => .idx
          | false => match fn.name == "internal/bytealg.CountString" with
            | true => .cnt
            | false => match fn.name == "internal/abi.NoEscape" with
              | true => .same
              | false => match fn.name == "internal/bytealg.MakeNoZero" with
                | true => match fn.resultTypes.toList with
                  | [t] => .mnz t
                  | _ => .no
                | false => .no
        | false => .no
  | none => .no
theorem exec_call {o : Oper} {c : Call} {fv : Operand} {f : FuncId} {A C : Array Value} (ho : o.op = .call c) (hc : c.callee = .value fv) (hv : ev fv = .func (.func f) A C) : execOp ev o = callFunc f ((A ++ c.args.map ev) ++ C) := by
  simp only [execOp, ho, resolve, hc, hv]
  rfl
theorem callFunc_body {f : FuncId} {args : Array Value} (hh : extOf P f = .body) : Ok P (callFunc f args) w (.enter f args) w := by
  unfold extOf at hh
  split at hh
  · rename_i fn hfn
    split at hh
    · cases hh
    · rename_i hn
      split at hh
      · rename_i b hb
        unfold callFunc
        refine Ok.program.bind ?_
        simp only [hfn, hn, Bool.false_eq_true, if_false, hb, Option.isNone_some]
        exact Ok.pure
      · split at hh
        · split at hh
          · cases hh
          · split at hh
            · cases hh
            · split at hh
              · cases hh
              · split at hh
                · split at hh <;> cases hh
                · cases hh
        · cases hh
  · cases hh
theorem callFunc_ext {f : FuncId} {fn : Func} {args : Array Value} {row : Array Value → Sem Value} {v : Value} {w' : World} (hfn : P.funcs[f]? = some fn) (hn : (fn.name == "runtime.NumGoroutine") = false) (hb : fn.body = none)
    (h1 : Extern.findNext fn = none) (h2 : Extern.find fn = some row) (hv : Ok P (row args) w v w') : Ok P (callFunc f args) w (.value v) w' := by
  unfold callFunc
  refine Ok.program.bind ?_
  simp only [hfn, hn, Bool.false_eq_true, if_false, hb, Option.isNone_none, if_true]
  refine Ok.bind (a := ()) (w' := w) rfl ?_
  simp only [h1, h2]
  exact hv.bind Ok.pure
theorem ext_idx {fn : Func} (h1 : fn.name = "internal/bytealg.IndexByteString") (h2 : fn.origin = "") : Extern.findNext fn = none ∧ Extern.find fn = some Extern.BytealgIndexByte.indexByte := by
  unfold Extern.findNext Extern.find
  rw [h1, h2]
  exact ⟨rfl, rfl⟩
theorem ext_cnt {fn : Func} (h1 : fn.name = "internal/bytealg.CountString") (h2 : fn.origin = "") : Extern.findNext fn = none ∧ Extern.find fn = some Extern.BytealgCount.count := by
  unfold Extern.findNext Extern.find
  rw [h1, h2]
  exact ⟨rfl, rfl⟩
theorem ext_same {fn : Func} (h1 : fn.name = "internal/abi.NoEscape") (h2 : fn.origin = "") : Extern.findNext fn = none ∧ Extern.find fn = some Extern.AbiNoEscape.same := by
  unfold Extern.findNext Extern.find
  rw [h1, h2]
  exact ⟨rfl, rfl⟩
theorem ext_mnz {fn : Func} (h1 : fn.name = "internal/bytealg.MakeNoZero") (h2 : fn.origin = "") : Extern.findNext fn = none ∧ Extern.find fn = some (Extern.BytealgMakeNoZero.makeNoZero fn.params fn.resultTypes) := by
  unfold Extern.findNext Extern.find
  rw [h1, h2]
  exact ⟨rfl, rfl⟩
theorem extOf_ext {f : FuncId} {x : Ext} (hh : extOf P f = x) (h1 : x ≠ .body) (h2 : x ≠ .no) : ∃ fn, P.funcs[f]? = some fn ∧ (fn.name == "runtime.NumGoroutine") = false ∧ fn.body = none ∧ fn.origin = "" ∧
    match x with
    | .idx => fn.name = "internal/bytealg.IndexByteString"
    | .cnt => fn.name = "internal/bytealg.CountString"
    | .same => fn.name = "internal/abi.NoEscape"
    | .mnz t => fn.name = "internal/bytealg.MakeNoZero" ∧ fn.resultTypes = #[t]
    | _ => True := by
  unfold extOf at hh
  split at hh
  · rename_i fn hfn
    split at hh
    · exact absurd hh.symm h2
    · rename_i hn
      split at hh
      · exact absurd hh.symm h1
      · rename_i hb
        split at hh
        · rename_i ho
          have ho : fn.origin = "" := by simpa using ho
          refine ⟨fn, hfn, hn, hb, ho, ?_⟩
          split at hh
          · rename_i hq
            subst hh
            simpa using hq
          · split at hh
            · rename_i hq
              subst hh
              simpa using hq
            · split at hh
              · rename_i hq
                subst hh
                simpa using hq
              · split at hh
                · rename_i hq
                  split at hh
                  · rename_i t ht
                    subst hh
                    exact ⟨by simpa using hq, by apply Array.toList_inj.1; simpa using ht⟩
                  · exact absurd hh.symm h2
                · exact absurd hh.symm h2
        · exact absurd hh.symm h2
  · exact absurd hh.symm h2
inductive Eff | val (a : AV) (h : Hp) | call (f : FuncId) (as : List AV)
noncomputable def callExt (P : Program) (x : Ext) (f : FuncId) (as : List AV) (h : Hp) : Option Eff := match x with
  | .body => some (.call f as)
  | .idx => match as with
    | [.str s, .int .u8 c] => frcI (Lib.indexByte s c.toNat.toUInt8) fun r => some (.val (.int .i64 r) h)
    | _ => none
  | .cnt => match as with
    | [.str s, .int .u8 c] => frc (Lib.countByte s c.toNat.toUInt8) fun r => some (.val (.int .i64 (.ofNat r)) h)
    | _ => none
  | .same => match as with
    | [a] => some (.val a h)
    | _ => none
  | .mnz t => match as with
    | [.int .i64 (.ofNat n)] => match P.underlying t with
      | some (.slice e) => match Nat.ble n 281474976710656 with
        | true => some (.val (.sl h.next 0 n n false 1) (h.new (.row e 0 n [] .lf)))
        | false => none
      | _ => none
    | _ => none
  | .no => none
noncomputable def effCall (P : Program) (G : Nat) (c : Call) (ρ : PT AV) (h : Hp) : Option Eff := match c.callee with
  | .value fv => match rd G ρ fv with
    | some (.fn f a cp) => match rdAll G ρ c.args.toList with
      | some as => callExt P (extOf P f) f (a ++ (as ++ cp)) h
      | none => none
    | _ => none
  | _ => none
/-- an operation that calls -/
def Enters (P : Program) (φ : Phi) (w : World) (ev : Operand → Value) (o : Oper) (f : FuncId) (as : List AV) : Prop :=
  ∃ args : Array Value, Ok P (execOp ev o) w (.enter f args) w ∧ RelL φ as args.toList
theorem two_args {as : List AV} {args : Array Value} (hr : RelL φ as args.toList) {a b : AV} (ha : as = [a, b]) : ∃ u v, args = #[u, v] ∧ RelV φ a u ∧ RelV φ b v := by
  subst ha
  obtain ⟨u, us, h1, r1, hr⟩ := relL_cons.1 hr
  obtain ⟨v, vs, rfl, r2, hr⟩ := relL_cons.1 hr
  rw [relL_nil] at hr
  subst hr
  exact ⟨u, v, by apply Array.toList_inj.1; simpa using h1, r1, r2⟩
theorem one_arg {as : List AV} {args : Array Value} (hr : RelL φ as args.toList) {a : AV} (ha : as = [a]) : ∃ u, args = #[u] ∧ RelV φ a u := by
  subst ha
  obtain ⟨u, us, h1, r1, hr⟩ := relL_cons.1 hr
  rw [relL_nil] at hr
  subst hr
  exact ⟨u, by apply Array.toList_inj.1; simpa using h1, r1⟩
def EffOk (P : Program) (G : Nat) (φ : Phi) (h : Hp) (w : World) (ev : Operand → Value) (o : Oper) : Eff → Prop
  | .val a h' => Does P G φ h w ev o a h'
  | .call f as => extOf P f = .body ∧ Enters P φ w ev o f as
theorem effCall_ok (e : EvRel G φ ρ ev) (r : SRel G φ h w) {o : Oper} {c x} (ho : o.op = .call c) (hh : effCall P G c ρ h = some x) : EffOk P G φ h w ev o x := by
  unfold effCall at hh
  split at hh
  · rename_i fv hc
    split at hh
    · rename_i f a cp hf
      have hf := e _ _ hf
      simp only [RelV] at hf
      obtain ⟨A, C, hf, ra, rc⟩ := hf
      split at hh
      · rename_i as has
        have ras := rdAll_rel e has
        have hargs : RelL φ (a ++ (as ++ cp)) ((A ++ c.args.map ev) ++ C).toList := by
          have := ra.append (ras.append rc)
          simpa [Array.toList_append, List.append_assoc] using this
        have hex := exec_call ho hc hf
        generalize (A ++ c.args.map ev) ++ C = args at hargs hex
        generalize a ++ (as ++ cp) = all at hargs hh
        unfold callExt at hh
        split at hh
        · rename_i hx
          injection hh with hh
          subst hh
          exact ⟨hx, args, by rw [hex]; exact callFunc_body hx, hargs⟩
        · rename_i hx
          obtain ⟨fn, g1, g2, g3, g4, g5⟩ := extOf_ext hx (by simp) (by simp)
          obtain ⟨g6, g7⟩ := ext_idx g5 g4
          split at hh
          · rename_i s cc
            rw [frcI_eq] at hh
            injection hh with hh
            subst hh
            obtain ⟨u, v, rfl, ru, rv⟩ := two_args hargs rfl
            simp only [RelV] at ru rv
            subst ru rv
            refine ⟨.value _, _, w, φ, by rw [hex]; exact callFunc_ext g1 g2 g3 g6 g7 (Lib.run_indexByteString _ _ w), .inl rfl, Tr.refl r, by simp only [RelV]⟩
          · cases hh
        · rename_i hx
          obtain ⟨fn, g1, g2, g3, g4, g5⟩ := extOf_ext hx (by simp) (by simp)
          obtain ⟨g6, g7⟩ := ext_cnt g5 g4
          split at hh
          · rename_i s cc
            rw [frc_eq] at hh
            injection hh with hh
            subst hh
            obtain ⟨u, v, rfl, ru, rv⟩ := two_args hargs rfl
            simp only [RelV] at ru rv
            subst ru rv
            refine ⟨.value _, _, w, φ, by rw [hex]; exact callFunc_ext g1 g2 g3 g6 g7 (Lib.run_countString _ _ w), .inl rfl, Tr.refl r, by simp only [RelV]; rfl⟩
          · cases hh
        · rename_i hx
          obtain ⟨fn, g1, g2, g3, g4, g5⟩ := extOf_ext hx (by simp) (by simp)
          obtain ⟨g6, g7⟩ := ext_same g5 g4
          split at hh
          · injection hh with hh
            subst hh
            obtain ⟨u, rfl, ru⟩ := one_arg hargs rfl
            exact ⟨.value u, u, w, φ, by rw [hex]; exact callFunc_ext g1 g2 g3 g6 g7 Ok.pure, .inl rfl, Tr.refl r, ru⟩
          · cases hh
        · rename_i t hx
          obtain ⟨fn, g1, g2, g3, g4, g5, g8⟩ := extOf_ext hx (by simp) (by simp)
          obtain ⟨g6, g7⟩ := ext_mnz g5 g4
          split at hh
          · rename_i n
            split at hh
            · rename_i el hu
              split at hh
              · rename_i hn
                have hn : n ≤ 281474976710656 := by simpa using hn
                injection hh with hh
                subst hh
                obtain ⟨u, rfl, ru⟩ := one_arg hargs rfl
                simp only [RelV] at ru
                subst ru
                obtain ⟨cs, q1, q2, -⟩ := Lib.run_makeNoZero w fn.params t el hu n hn
                rw [← g8] at q1
                refine ⟨.value _, _, _, φ.add h.next ⟨w.heap.size, 0, 0, cs.size⟩, by rw [hex]; exact callFunc_ext g1 g2 g3 g6 g7 q1, .inl rfl, Tr.new_blk (ob := .cells cs el) r rfl (Nat.le_refl _) rfl ?_, ?_⟩
                · refine ⟨rfl, cs, (0, 0), rfl, rfl, by simp; exact q2, ?_, fun k _ => by simp⟩
                  intro i a hi
                  obtain ⟨-, ha⟩ := cellA_lf hi
                  simp at ha
                · simp only [RelV]
                  exact ⟨_, 0, cs.size, Phi.add_same, rfl, Nat.le_refl _, q2, fun hc => absurd hc (by simp), by simp, fun _ => ⟨Nat.le_refl _, rfl⟩⟩
              · cases hh
            · cases hh
          · cases hh
        · cases hh
      · cases hh
    · cases hh
  · cases hh

/-! ### the next step of an iterator -/
theorem RelE.filter {p : Ent → Bool} {q : MapEntry → Bool} (hpq : ∀ e m, RelEnt φ e m → p e = q m) : ∀ {es : List Ent} {ms : List MapEntry}, RelE φ es ms → RelE φ (es.filter p) (ms.filter q)
  | [], _, r => by have : _ = [] := r; subst this; rfl
  | e :: es, _, r => by
    obtain ⟨m, ms, rfl, h1, h2⟩ := r
    rw [List.filter_cons, List.filter_cons, hpq e m h1]
    split
    · exact ⟨m, _, rfl, h1, RelE.filter hpq h2⟩
    · exact RelE.filter hpq h2
theorem RelE.all {p : Ent → Bool} {q : MapEntry → Bool} (hpq : ∀ e m, RelEnt φ e m → p e = q m) : ∀ {es : List Ent} {ms : List MapEntry}, RelE φ es ms → es.all p = ms.all q
  | [], _, r => by have : _ = [] := r; subst this; rfl
  | e :: es, _, r => by
    obtain ⟨m, ms, rfl, h1, h2⟩ := r
    rw [List.all_cons, List.all_cons, hpq e m h1, RelE.all hpq h2]
theorem RelE.get' : ∀ {es : List Ent} {ms : List MapEntry} {i : Nat} {e : Ent}, RelE φ es ms → es[i]? = some e → ∃ m, ms[i]? = some m ∧ RelEnt φ e m
  | [], _, i, e, _, he => by simp at he
  | x :: es, _, i, e, r, he => by
    obtain ⟨m, ms, rfl, h1, h2⟩ := r
    cases i with
    | zero => simp at he; subst he; exact ⟨m, by simp, h1⟩
    | succ i => simp at he; obtain ⟨y, h3, h4⟩ := RelE.get' h2 he; exact ⟨y, by simpa using h3, h4⟩
noncomputable def stepAlt (h : Hp) (b m since : Nat) (seen : List Nat) (clock : Nat) (e : Option Ent) : AV × Hp := match e with
  | none => (.tup [.bool false], h)
  | some e => match spine (seen ++ [e.born]) with
    | some s => (.tup [.bool true, e.key, e.val], h.put b (.iter (some m) since s clock))
    | none => (.tup [.bool false], h)
noncomputable def effNext (G : Nat) (it : Operand) (isS : Bool) (ρ : PT AV) (h : Hp) : Option (List (AV × Hp)) := match isS with
  | true => none
  | false => match rd G ρ it with
    | some (.ptr b off) => match off with
      | 0 => match h.get b with
        | some (.iter none _ _ _) => some [(.tup [.bool false], h)]
        | some (.iter (some m) since seen last) => match Nat.ble G b with
          | true => match h.get m with
            | some (.map es clock) => match !seen.isEmpty && (!es.isEmpty && es.all fun e => Nat.ble last e.born) with
              | true => none
              | false =>
                let left := es.filter fun e => !seen.contains e.born
                let old := left.filter fun e => Nat.blt e.born since
                let new := left.filter fun e => Nat.ble since e.born
                some (((if old.isEmpty then [none] else []) ++ (old ++ new).map some).map (stepAlt h b m since seen clock))
            | _ => none
          | false => none
        | _ => none
      | _ + 1 => none
    | _ => none
theorem choose_map (n : Nat) (hn : 0 < n) (w : World) : ∃ k w', k < n ∧ Ok P (choose (.mapNext n)) w k w' ∧ w'.heap = w.heap ∧ Env w w' := by
  by_cases h1 : n ≤ 1
  · exact ⟨0, w, hn, by simp [Ok, choose, Sem.run, Question.forced, h1], rfl, .refl w⟩
  · exact ⟨w.tape w.drawn (.mapNext n) % n, { w with drawn := w.drawn + 1 }, Nat.mod_lt _ hn, by simp [Ok, choose, Sem.run, Question.forced, h1, Question.cut], rfl, ⟨rfl, rfl, rfl⟩⟩
theorem effNext_ok (e : EvRel G φ ρ ev) (r : SRel G φ h w) {o : Oper} {it isS l} (ho : o.op = .next it isS) (hh : effNext G it isS ρ h = some l) : ∃ x ∈ l, Does P G φ h w ev o x.1 x.2 := by
  have hex : execOp ev o = Instr.next (ev it) isS o.type >>= fun v => Pure.pure (.value v) := by simp only [execOp, ho]
  unfold effNext at hh
  split at hh
  · cases hh
  · split at hh
    · rename_i b off hx
      have hv := e _ _ hx
      split at hh
      · simp only [RelV] at hv
        obtain ⟨p, hp, hlo, hv⟩ := hv
        split at hh
        · rename_i since seen last hb
          injection hh with hh
          subst hh
          obtain ⟨p', m', hp', h0, h1, hB, hm⟩ := iter_of r hb
          rw [hp] at hp'
          injection hp' with hp'
          subst hp'
          have hm : m' = none := hm
          subst hm
          refine ⟨_, List.mem_singleton.2 rfl, .value (.tuple #[.bool false]), .tuple #[.bool false], w, φ, ?_, .inl rfl, Tr.refl r, by simp only [RelV]; exact ⟨_, rfl, by simp [RelV]⟩⟩
          rw [hex, hv, h0, h1]
          refine Ok.bind (s := Instr.next _ false o.type) ?_ Ok.pure
          unfold Instr.next
          refine (ok_getIter hB).bind ?_
          exact Ok.pure
        · rename_i m since seen last hb
          obtain ⟨p', m', hp', h0, h1, hB, q, hq, rfl⟩ := iter_of r hb
          rw [hp] at hp'
          injection hp' with hp'
          subst hp'
          split at hh
          · rename_i hG
            have hG : G ≤ b := by simpa using hG
            split at hh
            · rename_i es clock hm
              obtain ⟨q', E, hq', hBm, hE⟩ := map_of r hm
              rw [hq] at hq'
              injection hq' with hq'
              subst hq'
              split at hh
              · cases hh
              · rename_i hgone
                injection hh with hh
                have hl1 : RelE φ (es.filter fun e => !seen.contains e.born) (E.filter fun e => !seen.toArray.contains e.born).toList := by
                  rw [Array.toList_filter]
                  exact RelE.filter (fun e m hem => by rw [hem.2.2, List.contains_toArray]) hE
                have hold : RelE φ ((es.filter fun e => !seen.contains e.born).filter fun e => Nat.blt e.born since) ((E.filter fun e => !seen.toArray.contains e.born).filter (·.born < since)).toList := by
                  rw [Array.toList_filter]
                  refine RelE.filter (fun e m hem => ?_) hl1
                  rw [hem.2.2, Bool.eq_iff_iff]; simp [Nat.blt]; omega
                have hnew : RelE φ ((es.filter fun e => !seen.contains e.born).filter fun e => Nat.ble since e.born) ((E.filter fun e => !seen.toArray.contains e.born).filter (·.born ≥ since)).toList := by
                  rw [Array.toList_filter]
                  refine RelE.filter (fun e m hem => ?_) hl1
                  rw [hem.2.2, Bool.eq_iff_iff]; simp
                generalize hO : (es.filter fun e => !seen.contains e.born).filter (fun e => Nat.blt e.born since) = old at hh hold
                generalize hN : (es.filter fun e => !seen.contains e.born).filter (fun e => Nat.ble since e.born) = new at hh hnew
                generalize hOO : (E.filter fun e => !seen.toArray.contains e.born).filter (·.born < since) = oldE at hold
                generalize hNN : (E.filter fun e => !seen.toArray.contains e.born).filter (·.born ≥ since) = newE at hnew
                have hemp : old.isEmpty = oldE.isEmpty := by
                  have := hold.length
                  cases old with
                  | nil => simp at this; simp [this]
                  | cons a l => simp at this; rw [Array.isEmpty]; simp [this]
                let cands : Array (Option MapEntry) := (if oldE.isEmpty then #[none] else #[]) ++ (oldE ++ newE).map some
                have hpos : 0 < cands.size := by
                  simp only [cands, Array.size_append, Array.size_map]
                  by_cases h9 : oldE.isEmpty = true
                  · simp [h9]; omega
                  · simp only [h9, Bool.false_eq_true, if_false]
                    have : oldE.size ≠ 0 := by intro hc; apply h9; simp [Array.isEmpty, hc]
                    simp; omega
                obtain ⟨k, w1, hk, hch, hw1, hwe⟩ := choose_map (P := P) cands.size hpos w
                have hB1 : w1.heap[p.B]? = some (.mapIter (some q.B) since seen.toArray last) := by rw [hw1]; exact hB
                -- the run up to the choice
                have run : ∀ {v : Value} {w' : World}, (Ok P (match cands[k]? with
                    | some (some e) => do
                      setObj p.B (.mapIter (some q.B) since (seen.toArray.push e.born) clock)
                      Pure.pure (.tuple #[.bool true, e.key, e.val])
                    | some none => Pure.pure (.tuple #[.bool false])
                    | none => stuck "Next: no such candidate") w1 v w') → Ok P (Instr.next (.pointer (some ⟨p.B, 0, none⟩)) false o.type) w v w' := fun {v w'} hrest => by
                  unfold Instr.next
                  refine (ok_getIter hB).bind ?_
                  refine (ok_getMap hBm).bind ?_
                  have hgone' : (!seen.toArray.isEmpty && !E.isEmpty && E.all (·.born ≥ last)) = false := by
                    have e1 : es.isEmpty = E.isEmpty := by
                      have := hE.length
                      cases es with
                      | nil => simp at this; simp [this]
                      | cons a l => simp at this; rw [Array.isEmpty]; simp [this]
                    have e2 : (es.all fun e => Nat.ble last e.born) = E.all (·.born ≥ last) := by
                      rw [← Array.all_toList]
                      exact RelE.all (fun e m hem => by rw [hem.2.2, Bool.eq_iff_iff]; simp) hE
                    rw [← e2, ← e1, Bool.and_assoc]
                    have e3 : seen.toArray.isEmpty = seen.isEmpty := by cases seen <;> simp
                    rw [e3]
                    simpa using hgone
                  simp only [hgone', Bool.false_eq_true, if_false]
                  rw [hOO, hNN]
                  exact hch.bind hrest
                have htr1 : ∀ {w' : World} {φ' h'}, Tr G φ h w1 φ' h' w' → Tr G φ h w φ' h' w' := fun t => t.from_heap hw1 hwe
                have r1 := r.of_heap hw1
                cases hck : cands[k]? with
                | none => rw [Array.getElem?_eq_getElem hk] at hck; cases hck
                | some ce =>
                  cases ce with
                  | none =>
                    have h9 : oldE.isEmpty = true := by
                      rcases Bool.eq_false_or_eq_true oldE.isEmpty with h9 | h9
                      · exact h9
                      · exfalso
                        simp only [cands, h9, Bool.false_eq_true, if_false, Array.empty_append] at hck
                        rw [Array.getElem?_map] at hck
                        cases hx2 : (oldE ++ newE)[k]? <;> rw [hx2] at hck <;> simp at hck
                    refine ⟨(.tup [.bool false], h), ?_, .value (.tuple #[.bool false]), .tuple #[.bool false], w1, φ, ?_, .inl rfl, htr1 (Tr.refl r1), by simp only [RelV]; exact ⟨_, rfl, by simp [RelV]⟩⟩
                    · rw [← hh]
                      refine List.mem_map.2 ⟨none, ?_, rfl⟩
                      rw [hemp, h9]
                      simp
                    · rw [hex, hv, h0, h1]
                      refine Ok.bind (run (v := .tuple #[.bool false]) (w' := w1) ?_) Ok.pure
                      rw [hck]
                      exact Ok.pure
                  | some me =>
                    have hmem : ∃ i : Nat, (oldE ++ newE)[i]? = some me := by
                      simp only [cands] at hck
                      by_cases h9 : oldE.isEmpty = true
                      · simp only [h9, if_true] at hck
                        cases k with
                        | zero =>
                          rw [Array.getElem?_append_left (by simp)] at hck
                          simp at hck
                        | succ k =>
                          rw [Array.getElem?_append_right (by simp)] at hck
                          rw [Array.getElem?_map] at hck
                          refine ⟨k, ?_⟩
                          simpa using hck
                      · simp only [h9, Bool.false_eq_true, if_false, Array.empty_append] at hck
                        rw [Array.getElem?_map] at hck
                        exact ⟨k, by simpa using hck⟩
                    obtain ⟨i, hi⟩ := hmem
                    have hrel : RelE φ (old ++ new) (oldE ++ newE).toList := by rw [Array.toList_append]; exact hold.append hnew
                    obtain ⟨en, g1, g2⟩ := hrel.get (i := i) (m := me) (by rw [Array.getElem?_toList]; exact hi)
                    refine ⟨stepAlt h b m since seen clock (some en), ?_, .value (.tuple #[.bool true, me.key, me.val]), .tuple #[.bool true, me.key, me.val], { w1 with heap := w1.heap.setIfInBounds p.B (.mapIter (some q.B) since (seen.toArray.push me.born) clock) }, φ, ?_, .inl rfl, ?_, ?_⟩
                    · rw [← hh]
                      refine List.mem_map.2 ⟨some en, ?_, rfl⟩
                      refine List.mem_append.2 (.inr (List.mem_map.2 ⟨en, List.mem_of_getElem? g1, rfl⟩))
                    · rw [hex, hv, h0, h1]
                      refine Ok.bind (run (v := .tuple #[.bool true, me.key, me.val]) ?_) Ok.pure
                      rw [hck]
                      refine Ok.bind (a := ()) ?_ Ok.pure
                      simp [Ok, setObj, Sem.run, hB1]
                    · simp only [stepAlt, spine_eq]
                      refine htr1 (Tr.change r1 hG hb hp rfl ?_)
                      refine ⟨h0, h1, some q.B, ?_, q, hq, rfl⟩
                      rw [g2.2.2]; simp
                    · simp only [stepAlt, spine_eq, RelV]
                      exact ⟨_, rfl, by simpa [RelV] using ⟨g2.1, g2.2.1⟩⟩
            · cases hh
          · cases hh
        · cases hh
      · cases hh
    · cases hh
end
end
section
/-- an operation, made ready -/
inductive Ins
  | free (f : PT AV → Hp → Option AV)
  | read (f : PT AV → Hp → Option AV)
  | mk (f : PT AV → Option (Blk × (Nat → AV)))
  | eff (f : PT AV → Hp → Option (AV × Hp))
  | call (f : PT AV → Hp → Option Eff)
  | alt (f : PT AV → Hp → Option (List (AV × Hp)))
  | no
noncomputable def withSkip (h : Option Hp) : Option (AV × Hp) := match h with
  | some h => some (skipV, h)
  | none => none
noncomputable def comp (P : Program) (G : Nat) (o : Op) : Ins := match o with
  | .move x => .free fun ρ _ => rd G ρ x
  | .assign x => .free fun ρ _ => rd G ρ x
  | .pick c x y => .free fun ρ _ => opPick G c x y ρ
  | .load t x => .read (opLoad P G t x)
  | .nilCheck x => .free fun ρ _ => opNil G x ρ
  | .binOp op t x y _ => .free fun ρ _ => opBin P G op t x y ρ
  | .unOp op _ x => .free fun ρ _ => opUn P G op x ρ
  | .convert src dst x => match sbT P src dst with
    | some _ => .mk (mkBytes P G src dst x)
    | none => .read (opConv P G src dst x)
  | .fieldAddr s x f => .free fun ρ _ => opFieldAddr P G s x f ρ
  | .field s x f => .free fun ρ _ => opField P G s x f ρ
  | .indexAddr t x ix => .free fun ρ _ => opIndexAddr P G t x ix ρ
  | .index t x ix => .free fun ρ _ => opIndex P G t x ix ρ
  | .extract x i => .free fun ρ _ => opExtract G x i ρ
  | .makeFunc f a c => .free fun ρ _ => opMakeFunc G f a c ρ
  | .build t ps => .free fun ρ _ => opBuild P G t ps ρ
  | .slice t x lo hi mx => .read (opSlice P G t x lo hi mx)
  | .lookup t x k ok => .read (opLookup P G t x k ok)
  | .entry it => .read (opEntry G it)
  | .alloc e => .mk fun _ => mkAlloc P e
  | .box e x => .mk (mkBox G e x)
  | .buildSlice t len ps => match len with
    | 0 => match ps.toList with
      | [] => .mk (mkBuildSlice P G t 0 ps)
      | _ => .no
    | len + 1 => .mk (mkBuildSlice P G t (len + 1) ps)
  | .makeSlice t l c => .mk (mkMake P G t l c)
  | .makeMap t r => .mk (mkMap P G t r)
  | .store t a x => .eff fun ρ h => withSkip (effStore P G t a x ρ h)
  | .mapUpdate t m k x => .eff fun ρ h => withSkip (effUpdate P G t m k x ρ h)
  | .range t x => .eff (effRange P G t x)
  | .next it s => .alt (effNext G it s)
  | .call c => match c.callee with
    | .value _ => .call (effCall P G c)
    | .builtin b => match b with
      | .len => .read (opLen P G c)
      | .cap => .free fun ρ _ => opCap P G c ρ
      | .min => .free fun ρ _ => opMin G false c ρ
      | .max => .free fun ρ _ => opMin G true c ρ
      | .unsafeSliceData => .free fun ρ _ => opSliceData G c ρ
      | .append => .eff (effAppend P G c)
      | .copy => .eff (effCopy P G c)
      | .clear => .eff fun ρ h => withSkip (effClear P G c ρ h)
      | .delete => .eff fun ρ h => withSkip (effDelete P G c ρ h)
      | .unsafeString => .eff (effString P G c)
      | _ => .no
    | _ => .no
  | _ => .no
section
variable {P : Program} {G : Nat}
def InsOk (P : Program) (G : Nat) (o : Oper) : Ins → Prop
  | .free f => ∀ φ h ρ ev a w, EvRel G φ ρ ev → f ρ h = some a → Gives P φ w ev o a
  | .read f => ∀ φ h ρ ev a w, EvRel G φ ρ ev → SRel G φ h w → f ρ h = some a → Gives P φ w ev o a
  | .mk f => ∀ φ ρ ev x g w, EvRel G φ ρ ev → f ρ = some (x, g) → Makes P φ w ev o x g
  | .eff f => ∀ φ h ρ ev a h' w, EvRel G φ ρ ev → SRel G φ h w → f ρ h = some (a, h') → Does P G φ h w ev o a h'
  | .call f => ∀ φ h ρ ev x w, EvRel G φ ρ ev → SRel G φ h w → f ρ h = some x → EffOk P G φ h w ev o x
  | .alt f => ∀ φ h ρ ev l w, EvRel G φ ρ ev → SRel G φ h w → f ρ h = some l → ∃ x ∈ l, Does P G φ h w ev o x.1 x.2
  | .no => True
theorem withSkip_some {x : Option Hp} {a : AV} {h' : Hp} (hh : withSkip x = some (a, h')) : x = some h' ∧ a = skipV := by
  unfold withSkip at hh
  split at hh
  · simp only [Option.some.injEq, Prod.mk.injEq] at hh
    exact ⟨by rw [hh.2], hh.1.symm⟩
  · cases hh
theorem comp_ok (o : Oper) : InsOk P G o (comp P G o.op) := by
  have call : ∀ {c : Call} {b : Builtin}, o.op = .call c → c.callee = .builtin b → InsOk P G o (match b with
      | .len => .read (opLen P G c)
      | .cap => .free fun ρ _ => opCap P G c ρ
      | .min => .free fun ρ _ => opMin G false c ρ
      | .max => .free fun ρ _ => opMin G true c ρ
      | .unsafeSliceData => .free fun ρ _ => opSliceData G c ρ
      | .append => .eff (effAppend P G c)
      | .copy => .eff (effCopy P G c)
      | .clear => .eff fun ρ h => withSkip (effClear P G c ρ h)
      | .delete => .eff fun ρ h => withSkip (effDelete P G c ρ h)
      | .unsafeString => .eff (effString P G c)
      | _ => .no) := fun {c b} ho hc => by
    cases b
    case len => exact fun φ h ρ ev a w e r hh => opLen_ok e r ho hc hh
    case cap => exact fun φ h ρ ev a w e hh => opCap_ok e ho hc hh
    case min => exact fun φ h ρ ev a w e hh => opMin_ok (mx := false) e ho hc hh
    case max => exact fun φ h ρ ev a w e hh => opMin_ok (mx := true) e ho hc hh
    case unsafeSliceData => exact fun φ h ρ ev a w e hh => opSliceData_ok e ho hc hh
    case append => exact fun φ h ρ ev a h' w e r hh => effAppend_ok e r ho hc hh
    case copy => exact fun φ h ρ ev a h' w e r hh => effCopy_ok e r ho hc hh
    case clear => exact fun φ h ρ ev a h' w e r hh => by obtain ⟨h1, rfl⟩ := withSkip_some hh; exact effClear_ok e r ho hc h1
    case delete => exact fun φ h ρ ev a h' w e r hh => by obtain ⟨h1, rfl⟩ := withSkip_some hh; exact effDelete_ok e r ho hc h1
    case unsafeString => exact fun φ h ρ ev a h' w e r hh => effString_ok e r ho hc hh
    all_goals exact trivial
  cases ho : o.op
  case move x => exact fun φ h ρ ev a w e hh => opMove_ok e (.inl ho) hh
  case assign x => exact fun φ h ρ ev a w e hh => opMove_ok e (.inr ho) hh
  case pick c x y => exact fun φ h ρ ev a w e hh => opPick_ok e ho hh
  case load t x => exact fun φ h ρ ev a w e r hh => opLoad_ok e r ho hh
  case nilCheck x => exact fun φ h ρ ev a w e hh => opNil_ok e ho hh
  case binOp => exact fun φ h ρ ev a w e hh => opBin_ok e ho hh
  case unOp => exact fun φ h ρ ev a w e hh => opUn_ok e ho hh
  case convert src dst x =>
    simp only [comp]
    split
    · exact fun φ ρ ev x g w e hh => mkBytes_ok e ho hh
    · exact fun φ h ρ ev a w e r hh => opConv_ok e r ho hh
  case fieldAddr => exact fun φ h ρ ev a w e hh => opFieldAddr_ok e ho hh
  case field => exact fun φ h ρ ev a w e hh => opField_ok e ho hh
  case indexAddr => exact fun φ h ρ ev a w e hh => opIndexAddr_ok e ho hh
  case index => exact fun φ h ρ ev a w e hh => opIndex_ok e ho hh
  case extract => exact fun φ h ρ ev a w e hh => opExtract_ok e ho hh
  case makeFunc => exact fun φ h ρ ev a w e hh => opMakeFunc_ok e ho hh
  case build => exact fun φ h ρ ev a w e hh => opBuild_ok e ho hh
  case slice => exact fun φ h ρ ev a w e r hh => opSlice_ok e r ho hh
  case lookup => exact fun φ h ρ ev a w e r hh => opLookup_ok e r ho hh
  case entry => exact fun φ h ρ ev a w e r hh => opEntry_ok e r ho hh
  case alloc => exact fun φ ρ ev x g w e hh => mkAlloc_ok ho hh
  case box => exact fun φ ρ ev x g w e hh => mkBox_ok e ho hh
  case buildSlice t len ps =>
    cases len with
    | zero =>
      simp only [comp]
      split
      · rename_i hps
        exact fun φ ρ ev x g w e hh => mkBuildSlice_ok e ho (fun _ => hps) hh
      · exact trivial
    | succ n => exact fun φ ρ ev x g w e hh => mkBuildSlice_ok e ho (fun h => by cases h) hh
  case makeSlice => exact fun φ ρ ev x g w e hh => mkMake_ok e ho hh
  case makeMap => exact fun φ ρ ev x g w e hh => mkMap_ok e ho hh
  case store => exact fun φ h ρ ev a h' w e r hh => by obtain ⟨h1, rfl⟩ := withSkip_some hh; exact effStore_ok e r ho h1
  case mapUpdate => exact fun φ h ρ ev a h' w e r hh => by obtain ⟨h1, rfl⟩ := withSkip_some hh; exact effUpdate_ok e r ho h1
  case range => exact fun φ h ρ ev a h' w e r hh => effRange_ok e r ho hh
  case next => exact fun φ h ρ ev l w e r hh => effNext_ok e r ho hh
  case call c =>
    simp only [comp]
    split
    · exact fun φ h ρ ev x w e r hh => effCall_ok e r ho hh
    · rename_i b hc
      exact call ho hc
    · exact trivial
  all_goals exact trivial
end

/-! ### frames -/
def EnvRel (n : Nat) (φ : Phi) (ρ : PT AV) (tm : Array Value) : Prop := n ≤ tm.size ∧ ∀ t a, ρ.get (Ps.of t) = some a → ∃ v, tm[t]? = some v ∧ RelV φ a v
theorem EnvRel.mono {n φ φ' ρ tm} (h : Phi.sub φ φ') (r : EnvRel n φ ρ tm) : EnvRel n φ' ρ tm := ⟨r.1, fun t a ha => let ⟨v, h1, h2⟩ := r.2 t a ha; ⟨v, h1, h2.mono h⟩⟩
theorem EnvRel.ev {G n φ ρ h w} {a : Act} (r : EnvRel n φ ρ a.tmps) (s : SRel G φ h w) : EvRel G φ ρ a.eval := by
  intro x v hx
  cases x with
  | tmp t =>
    obtain ⟨u, h1, h2⟩ := r.2 t v hx
    have : a.eval (.tmp t) = u := by simp [Act.eval, h1]
    rw [this]
    exact h2
  | const c => exact ofV_rel hx
  | global g =>
    simp only [rd] at hx
    split at hx
    · rename_i hg
      injection hx with hx
      subst hx
      obtain ⟨N, hN⟩ := s.glob g (blt_lt hg)
      simp only [RelV]
      exact ⟨_, hN, Nat.le_refl _, rfl⟩
    · cases hx
  | func f =>
    simp only [rd, Option.some.injEq] at hx
    subst hx
    simp only [RelV]
    exact ⟨#[], #[], rfl, rfl, rfl⟩
theorem EnvRel.put {n φ ρ} {a : Act} {d : Tmp} {v : AV} {u : Value} (r : EnvRel n φ ρ a.tmps) (hd : d < n) (hv : RelV φ v u) : EnvRel n φ (ρ.set (some v) (Ps.of d)) (a.put (some d) u).tmps := by
  refine ⟨by simpa [Act.put] using r.1, fun t b hb => ?_⟩
  rw [PT.get_set_of] at hb
  by_cases ht : t = d
  · subst ht
    simp at hb
    subst hb
    refine ⟨u, ?_, hv⟩
    have hlt : t < a.tmps.size := Nat.lt_of_lt_of_le hd r.1
    simp [Act.put, hlt]
  · rw [if_neg ht] at hb
    obtain ⟨x, h1, h2⟩ := r.2 t b hb
    refine ⟨x, ?_, h2⟩
    simp only [Act.put]
    rw [Array.getElem?_setIfInBounds_ne (Ne.symm ht)]
    exact h1
end
section
inductive Ex | nrm | exit (id : Nat) | goto (l : Nat) | ret
def Ex.toExit : Ex → Exit
  | .nrm => .normal | .exit id => .exit id | .goto l => .goto l | .ret => .ret
inductive Res
  | no
  | one (e : Ex) (ρ : PT AV) (h : Hp)
  | alt (a b : Res)
def Res.all (K : Ex → PT AV → Hp → Prop) : Res → Prop
  | .no => False
  | .one e ρ h => K e ρ h
  | .alt a b => a.all K ∧ b.all K
abbrev CallF := FuncId → List AV → Hp → Option (AV × Hp)
inductive Gd | yes | on (d : Tmp) (want : Bool) | never
def gdOf (ops : Array Oper) (o : Oper) : Gd := match o.guard with
  | none => .yes
  | some (j, want) => match ops[j]? with
    | some q => match q.dst with
      | some d => .on d want
      | none => .never
    | none => .never
noncomputable def wantA (g : Gd) (ρ : PT AV) : Option Bool := match g with
  | .yes => some true
  | .never => some false
  | .on d want => match ρ.get (Ps.of d) with
    | some (.bool b) => match b with
      | true => match want with | true => some true | false => some false
      | false => match want with | true => some false | false => some true
    | some (.tup _) => some false
    | _ => none
theorem wantA_ok {ops : Array Oper} {o : Oper} {n φ ρ} {tm : Array Value} {b : Bool} (r : EnvRel n φ ρ tm) (hh : wantA (gdOf ops o) ρ = some b) : Region.wanted o (yielded ops tm) = b := by
  unfold gdOf at hh
  unfold Region.wanted
  cases hg : o.guard with
  | none =>
    rw [hg] at hh
    simp only [wantA, Option.some.injEq] at hh
    simp [hh]
  | some jw =>
    obtain ⟨j, want⟩ := jw
    rw [hg] at hh
    simp only at hh ⊢
    unfold yielded
    cases hj : ops[j]? with
    | none =>
      rw [hj] at hh
      simp only [wantA, Option.some.injEq] at hh
      subst hh
      simp
    | some q =>
      rw [hj] at hh
      simp only at hh
      cases hd : q.dst with
      | none =>
        rw [hd] at hh
        simp only [wantA, Option.some.injEq] at hh
        subst hh
        simp [hd]
      | some d =>
        rw [hd] at hh
        simp only [wantA] at hh
        split at hh
        · rename_i x hx
          obtain ⟨v, h1, h2⟩ := r.2 d _ hx
          simp only [RelV] at h2
          subst h2
          simp only [Option.bind_some, hd, h1]
          cases x <;> cases want <;> simp at hh <;> subst hh <;> rfl
        · rename_i vs hx
          obtain ⟨v, h1, h2⟩ := r.2 d _ hx
          simp only [RelV] at h2
          obtain ⟨A, rfl, -⟩ := h2
          simp only [Option.some.injEq] at hh
          subst hh
          simp only [Option.bind_some, hd, h1]
          rfl
        · cases hh
inductive CO | mk (g : Gd) (d : Option Tmp) (i : Ins)
noncomputable def compO (P : Program) (G : Nat) (ops : Array Oper) (o : Oper) : CO := .mk (gdOf ops o) o.dst (comp P G o.op)
noncomputable def setK {β : Type} (no : β) (n : Nat) (d : Option Tmp) (v : AV) (ρ : PT AV) (k : PT AV → β) : β := match d with
  | none => k ρ
  | some d => match Nat.blt d n with
    | true => (ρ.set (some v) (Ps.of d)).frc k
    | false => no
def altL (l : List (AV × Hp)) (k : AV → Hp → Res) : Res := match l with
  | [] => .no
  | [x] => k x.1 x.2
  | x :: y :: l => .alt (k x.1 x.2) (altL (y :: l) k)
noncomputable def step1 (n : Nat) (cf : CallF) (c : CO) (ρ : PT AV) (h : Hp) (k : PT AV → Hp → Res) : Res := match c with
  | .mk g d i => match wantA g ρ with
    | none => .no
    | some false => setK .no n d skipV ρ fun ρ => k ρ h
    | some true => match i with
      | .free f => match f ρ h with
        | some v => setK .no n d v ρ fun ρ => k ρ h
        | none => .no
      | .read f => match f ρ h with
        | some v => setK .no n d v ρ fun ρ => k ρ h
        | none => .no
      | .mk f => match f ρ with
        | some (x, g) => frc h.next fun b => Hp.frcH (h.new x) fun h' => setK .no n d (g b) ρ fun ρ => k ρ h'
        | none => .no
      | .eff f => match f ρ h with
        | some (v, h') => Hp.frcH h' fun h' => setK .no n d v ρ fun ρ => k ρ h'
        | none => .no
      | .call f => match f ρ h with
        | some x => match x with
          | .val v h' => Hp.frcH h' fun h' => setK .no n d v ρ fun ρ => k ρ h'
          | .call g as => match cf g as h with
            | some (v, h') => Hp.frcH h' fun h' => setK .no n d v ρ fun ρ => k ρ h'
            | none => .no
        | none => .no
      | .alt f => match f ρ h with
        | some l => altL l fun v h' => Hp.frcH h' fun h' => setK .no n d v ρ fun ρ => k ρ h'
        | none => .no
      | .no => .no
/-! the same in small parts, each of which is quickly unfolded -/
noncomputable def sFree (n : Nat) (d : Option Tmp) (ρ : PT AV) (h : Hp) (k : PT AV → Hp → Res) (r : Option AV) : Res := match r with
  | some v => setK .no n d v ρ fun ρ => k ρ h
  | none => .no
noncomputable def sVal (n : Nat) (d : Option Tmp) (ρ : PT AV) (k : PT AV → Hp → Res) (v : AV) (h : Hp) : Res := Hp.frcH h fun h' => setK .no n d v ρ fun ρ => k ρ h'
noncomputable def sMk (n : Nat) (d : Option Tmp) (ρ : PT AV) (h : Hp) (k : PT AV → Hp → Res) (r : Option (Blk × (Nat → AV))) : Res := match r with
  | some p => frc h.next fun b => sVal n d ρ k (p.2 b) (h.new p.1)
  | none => .no
noncomputable def sEff (n : Nat) (d : Option Tmp) (ρ : PT AV) (k : PT AV → Hp → Res) (r : Option (AV × Hp)) : Res := match r with
  | some p => sVal n d ρ k p.1 p.2
  | none => .no
noncomputable def sCallE (n : Nat) (cf : CallF) (d : Option Tmp) (ρ : PT AV) (h : Hp) (k : PT AV → Hp → Res) (x : Eff) : Res := match x with
  | .val v h' => sVal n d ρ k v h'
  | .call g as => sEff n d ρ k (cf g as h)
noncomputable def sCall (n : Nat) (cf : CallF) (d : Option Tmp) (ρ : PT AV) (h : Hp) (k : PT AV → Hp → Res) (r : Option Eff) : Res := match r with
  | some x => sCallE n cf d ρ h k x
  | none => .no
noncomputable def sAlt (n : Nat) (d : Option Tmp) (ρ : PT AV) (k : PT AV → Hp → Res) (r : Option (List (AV × Hp))) : Res := match r with
  | some l => altL l fun v h' => sVal n d ρ k v h'
  | none => .no
noncomputable def sIns (n : Nat) (cf : CallF) (d : Option Tmp) (ρ : PT AV) (h : Hp) (k : PT AV → Hp → Res) (i : Ins) : Res := match i with
  | .free f => sFree n d ρ h k (f ρ h)
  | .read f => sFree n d ρ h k (f ρ h)
  | .mk f => sMk n d ρ h k (f ρ)
  | .eff f => sEff n d ρ k (f ρ h)
  | .call f => sCall n cf d ρ h k (f ρ h)
  | .alt f => sAlt n d ρ k (f ρ h)
  | .no => .no
noncomputable def sWant (n : Nat) (cf : CallF) (d : Option Tmp) (i : Ins) (ρ : PT AV) (h : Hp) (k : PT AV → Hp → Res) (b : Bool) : Res := match b with
  | false => setK .no n d skipV ρ fun ρ => k ρ h
  | true => sIns n cf d ρ h k i
noncomputable def sGd (n : Nat) (cf : CallF) (d : Option Tmp) (i : Ins) (ρ : PT AV) (h : Hp) (k : PT AV → Hp → Res) (g : Gd) : Res := match g with
  | .yes => sIns n cf d ρ h k i
  | g => match wantA g ρ with
    | none => .no
    | some b => sWant n cf d i ρ h k b
noncomputable def stepF (n : Nat) (cf : CallF) (c : CO) (ρ : PT AV) (h : Hp) (k : PT AV → Hp → Res) : Res := match c with
  | .mk g d i => sGd n cf d i ρ h k g
theorem sIns_eq (n cf d ρ h k i) : sIns n cf d ρ h k i = step1 n cf (.mk .yes d i) ρ h k := by
  cases i with
  | free f => rfl
  | read f => rfl
  | mk f =>
    simp only [sIns, sMk, step1, wantA]
    cases f ρ with
    | none => rfl
    | some p => rfl
  | eff f =>
    simp only [sIns, sEff, step1, wantA]
    cases f ρ h with
    | none => rfl
    | some p => rfl
  | call f =>
    simp only [sIns, sCall, step1, wantA]
    cases f ρ h with
    | none => rfl
    | some x =>
      cases x with
      | val v h' => rfl
      | call g as =>
        simp only [sCallE, sEff]
        cases cf g as h with
        | none => rfl
        | some p => rfl
  | alt f =>
    simp only [sIns, sAlt, step1, wantA]
    cases f ρ h with
    | none => rfl
    | some l => rfl
  | no => rfl
theorem step1_want (n cf g d i ρ h k) : step1 n cf (.mk g d i) ρ h k = (match wantA g ρ with
    | none => .no
    | some false => setK .no n d skipV ρ fun ρ => k ρ h
    | some true => step1 n cf (.mk .yes d i) ρ h k) := by
  simp only [step1]
  split <;> rfl
theorem stepF_eq (n cf c ρ h k) : stepF n cf c ρ h k = step1 n cf c ρ h k := by
  obtain ⟨g, d, i⟩ := c
  rw [step1_want]
  cases g with
  | yes => simp only [stepF, sGd, wantA]; exact sIns_eq n cf d ρ h k i
  | on t b =>
    simp only [stepF, sGd]
    cases wantA (.on t b) ρ with
    | none => rfl
    | some x => cases x <;> simp only [sWant, sIns_eq]
  | never =>
    simp only [stepF, sGd, wantA, sWant]
noncomputable def evalOps (n : Nat) (cf : CallF) (l : List CO) : PT AV → Hp → Res :=
  List.rec (motive := fun _ => PT AV → Hp → Res) (fun ρ h => .one .nrm ρ h) (fun c _ ih ρ h => stepF n cf c ρ h ih) l
section
variable {P : Program} {G : Nat}
/-- what is said of calls is what the model does -/
def CfOk (P : Program) (G : Nat) (cf : CallF) : Prop := ∀ f as h v h', cf f as h = some (v, h') → extOf P f = .body → ∀ φ w (args : Array Value), SRel G φ h w → RelL φ as args.toList →
  Calls P f args w fun e w' => ∃ u φ', e = .returned u ∧ Tr G φ h w φ' h' w' ∧ RelV φ' v u
theorem Act.put_none (a : Act) (v : Value) : a.put none v = a := rfl
theorem setK_ok {n φ ρ} {a : Act} {d : Option Tmp} {v : AV} {u : Value} {K} {k : PT AV → Res} (r : EnvRel n φ ρ a.tmps) (hv : RelV φ v u) (hh : (setK .no n d v ρ k).all K) :
    ∃ ρ', (k ρ').all K ∧ EnvRel n φ ρ' (a.put d u).tmps := by
  unfold setK at hh
  split at hh
  · exact ⟨ρ, hh, r⟩
  · split at hh
    · rename_i d hd
      rw [PT.frc_eq] at hh
      exact ⟨_, hh, r.put (blt_lt hd) hv⟩
    · exact hh.elim
theorem put_defers (a : Act) (d : Option Tmp) (v : Value) : (a.put d v).defers = a.defers := by cases d <;> rfl
theorem altL_all {l : List (AV × Hp)} {k : AV → Hp → Res} {K} : (altL l k).all K → ∀ x ∈ l, (k x.1 x.2).all K := by
  fun_induction altL l k
  · intro hh; exact hh.elim
  · intro hh x hx; rw [List.mem_singleton] at hx; subst hx; exact hh
  · rename_i x y l ih
    intro hh z hz
    rcases List.mem_cons.1 hz with rfl | hz
    · exact hh.1
    · exact ih hh.2 z hz
theorem step1_ok {n : Nat} {cf : CallF} (hcf : CfOk P G cf) {ops : Array Oper} {i : Nat} {o : Oper} (ho : ops[i]? = some o) {φ ρ h w} {a : Act} {k : PT AV → Hp → Res} {K} {Q : Exit → Act → World → Prop} {X : Act → World → Prop}
    (hh : (step1 n cf (compO P G ops o) ρ h k).all K) (r : EnvRel n φ ρ a.tmps) (s : SRel G φ h w)
    (hk : ∀ ρ' h' φ' a' w', (k ρ' h').all K → Tr G φ h w φ' h' w' → EnvRel n φ' ρ' a'.tmps → a'.defers = a.defers → X a' w') : wpOp P ops Q i X a w := by
  unfold wpOp
  simp only [ho]
  unfold step1 compO at hh
  simp only at hh
  have hcomp := comp_ok (P := P) (G := G) o
  have hev := r.ev s
  split at hh
  · exact hh.elim
  · rename_i hw
    rw [wantA_ok r hw]
    simp only [Bool.false_eq_true, if_false]
    obtain ⟨ρ', h1, h2⟩ := setK_ok r (skipV_rel (φ := φ)) hh
    exact hk ρ' h φ _ w h1 (Tr.refl s) h2 (put_defers _ _ _)
  · rename_i hw
    rw [wantA_ok r hw]
    simp only [if_true]
    refine .inl ?_
    -- an operation that answers
    have does : ∀ {v : AV} {h' : Hp}, Does P G φ h w a.eval o v h' → (setK .no n o.dst v ρ fun ρ => k ρ h').all K → o.wp P a w X Q := fun {v h'} hd hs => by
      obtain ⟨nx, u, w', φ', g1, g2, g3, g4⟩ := hd
      obtain ⟨ρ', h1, h2⟩ := setK_ok (r.mono g3.sub) g4 hs
      unfold Oper.wp
      unfold Ok at g1
      rw [g1]
      rcases g2 with rfl | ⟨rfl, rfl⟩
      · exact hk ρ' h' φ' _ w' h1 g3 h2 (put_defers _ _ _)
      · exact hk ρ' h' φ' _ w' h1 g3 h2 (put_defers _ _ _)
    split at hh
    · rename_i f hf
      rw [hf] at hcomp
      split at hh
      · rename_i v hv
        exact does ((hcomp φ h ρ a.eval v w hev hv).does s) hh
      · exact hh.elim
    · rename_i f hf
      rw [hf] at hcomp
      split at hh
      · rename_i v hv
        exact does ((hcomp φ h ρ a.eval v w hev s hv).does s) hh
      · exact hh.elim
    · rename_i f hf
      rw [hf] at hcomp
      split at hh
      · rename_i x g hx
        rw [frc_eq, Hp.frcH_eq] at hh
        obtain ⟨v, w', ob, N, g1, g2, g3⟩ := hcomp φ ρ a.eval x g w hev hx
        obtain ⟨g4, g5⟩ := g3 (φ.add h.next ⟨w.heap.size, 0, 0, N⟩) h.next (Phi.sub_add s.next_none) Phi.add_same
        exact does ⟨_, v, w', _, g1, .inl rfl, Tr.new_blk s rfl (Nat.le_refl _) g2.1 g4 g2.2, g5⟩ hh
      · exact hh.elim
    · rename_i f hf
      rw [hf] at hcomp
      split at hh
      · rename_i v h' hv
        rw [Hp.frcH_eq] at hh
        exact does (hcomp φ h ρ a.eval v h' w hev s hv) hh
      · exact hh.elim
    · rename_i f hf
      rw [hf] at hcomp
      split at hh
      · rename_i x hx
        have hx := hcomp φ h ρ a.eval x w hev s hx
        cases x with
        | val v h' =>
          simp only [Hp.frcH_eq] at hh
          exact does hx hh
        | call g as =>
          simp only at hh
          split at hh
          · rename_i v h' hc
            rw [Hp.frcH_eq] at hh
            obtain ⟨hb, args, g1, g2⟩ := hx
            unfold Oper.wp
            unfold Ok at g1
            rw [g1]
            refine (hcf g as h v h' hc hb φ w args s g2).mono ?_
            rintro e w' ⟨u, φ', rfl, g3, g4⟩
            obtain ⟨ρ', h1, h2⟩ := setK_ok (r.mono g3.sub) g4 hh
            exact hk ρ' h' φ' _ w' h1 g3 h2 (put_defers _ _ _)
          · exact hh.elim
      · exact hh.elim
    · rename_i f hf
      rw [hf] at hcomp
      split at hh
      · rename_i l hl
        obtain ⟨x, hx, hd⟩ := hcomp φ h ρ a.eval l w hev s hl
        have := altL_all hh x hx
        rw [Hp.frcH_eq] at this
        exact does hd this
      · exact hh.elim
    · exact hh.elim
theorem evalOps_ok {n : Nat} {cf : CallF} (hcf : CfOk P G cf) {ops : Array Oper} {K} {Q : Exit → Act → World → Prop} : ∀ {is : List Nat} {os : List Oper} {φ ρ h w} {a : Act}, is.map (ops[·]?) = os.map some →
    (evalOps n cf (os.map (compO P G ops)) ρ h).all K → EnvRel n φ ρ a.tmps → SRel G φ h w →
    (∀ e ρ' h' φ' a' w', K e ρ' h' → Tr G φ h w φ' h' w' → EnvRel n φ' ρ' a'.tmps → a'.defers = a.defers → Q e.toExit a' w') → wpOps P ops Q is a w
  | [], [], φ, ρ, h, w, a, _, hh, r, s, hq => by
    have hh : K .nrm ρ h := hh
    exact hq .nrm ρ h φ a w hh (Tr.refl s) r rfl
  | [], _ :: _, _, _, _, _, _, hl, _, _, _, _ => by simp at hl
  | _ :: _, [], _, _, _, _, _, hl, _, _, _, _ => by simp at hl
  | i :: is, o :: os, φ, ρ, h, w, a, hl, hh, r, s, hq => by
    simp only [List.map_cons, List.cons.injEq] at hl
    rw [wpOps_cons]
    have hh' : (stepF n cf (compO P G ops o) ρ h (evalOps n cf (os.map (compO P G ops)))).all K := hh
    rw [stepF_eq] at hh'
    refine step1_ok hcf hl.1 hh' r s ?_
    intro ρ' h' φ' a' w' h1 h2 h3 h4
    exact evalOps_ok hcf hl.2 h1 h3 h2.rel fun e ρ'' h'' φ'' a'' w'' k1 k2 k3 k4 => hq e ρ'' h'' φ'' a'' w'' k1 (h2.trans s k2) k3 (k4.trans h4)
end
end
section
/-! ### the plan -/
def edgesOf (o : Oper) : List Nat := o.after.toList.filterMap fun e => if Region.binds .any e then some e.on else none
def ancAux : List Oper → List Nat → List Nat
  | [], acc => acc
  | o :: os, acc => ancAux os (acc ++ [(edgesOf o).foldl (fun m j => Nat.lor m (Nat.lor (Nat.shiftLeft 1 j) (acc.getD j 0))) 0])
/-- those ahead of each operation, as bits -/
def ancs (ops : List Oper) : List Nat := ancAux ops []
/-- an operation of a plan: its number, itself made ready, those ahead of it, how many blocks are made ahead of it -/
inductive DI | mk (i : Nat) (c : CO) (A : Nat) (q : Nat)
def CO.isEff : CO → Bool
  | .mk _ _ (.eff _) | .mk _ _ (.call _) | .mk _ _ (.alt _) | .mk _ _ .no => true
  | _ => false
def CO.isMk : CO → Bool
  | .mk _ _ (.mk _) => true
  | _ => false
def DI.ready (done : Nat) : DI → Bool
  | .mk i _ A _ => !Nat.testBit done i && Nat.beq (Nat.land A done) A
def pickD (l : List DI) (done : Nat) : Option DI :=
  match l.find? fun | .mk i c A q => DI.ready done (.mk i c A q) && (!c.isEff && !c.isMk) with
  | some d => some d
  | none => match l.find? fun | .mk i c _ _ => !Nat.testBit done i && c.isEff with
    | some (.mk i c A q) => match DI.ready done (.mk i c A q) with
      | true => some (.mk i c A q)
      | false => l.find? fun | .mk j c' A' q' => DI.ready done (.mk j c' A' q') && (c'.isMk && Nat.testBit A j)
    | none => l.find? fun d => DI.ready done d
def planGo : Nat → List DI → Nat → Nat → List DI
  | 0, _, _, _ => []
  | f + 1, l, done, q => match pickD l done with
    | some (.mk i c A _) => .mk i c A q :: planGo f l (Nat.lor done (Nat.shiftLeft 1 i)) (match c.isMk with | true => q + 1 | false => q)
    | none => []
noncomputable def itemsA (P : Program) (G : Nat) (ops : Array Oper) : List Oper → List Nat → Nat → List DI
  | o :: os, A :: As, i => .mk i (compO P G ops o) A 0 :: itemsA P G ops os As (i + 1)
  | _, _, _ => []
noncomputable def planA (P : Program) (G : Nat) (ops : Array Oper) : List DI := planGo ops.size (itemsA P G ops ops.toList (ancs ops.toList) 0) 0 0
def DI.count : List DI → Nat
  | [] => 0
  | .mk _ c _ _ :: l => match c.isMk with | true => DI.count l + 1 | false => DI.count l
/-! ### what comes of it -/
structure Put where
  b : Nat
  i : Nat
  x : Blk
structure Rd where
  i : Nat
  f : Hp → Option AV
  v : AV
noncomputable def putAll (l : List Put) (h : Hp) : Hp := List.rec (motive := fun _ => Hp → Hp) (fun h => h) (fun p _ ih h => Hp.frcH (h.put p.b p.x) ih) l h
def within (A : Nat) (l : List Put) : Bool := match l with
  | [] => true
  | p :: l => match Nat.testBit A p.i with | true => within A l | false => false
def stillOpen (A : Nat) (l : List Rd) : List Rd := match l with
  | [] => []
  | r :: l => match Nat.testBit A r.i with | true => stillOpen A l | false => r :: stillOpen A l
/-- the same value: what has no parts of parts -/
def sameLeaf (a b : AV) : Bool := match a with
  | .int k m => match b with | .int k' n => kindB k k' && eqI m n | _ => false
  | .bool x => match b with | .bool y => (match x with | true => y | false => !y) | _ => false
  | .str _ => false
  | .nilptr => match b with | .nilptr => true | _ => false
  | .nilsl => match b with | .nilsl => true | _ => false
  | .nilmap => match b with | .nilmap => true | _ => false
  | .nilfn => match b with | .nilfn => true | _ => false
  | .nilif => match b with | .nilif => true | _ => false
  | .ptr x i => match b with | .ptr y j => Nat.beq x y && Nat.beq i j | _ => false
  | .sl x i l c e s => match b with | .sl y j l' c' e' s' => Nat.beq x y && (Nat.beq i j && (Nat.beq l l' && (Nat.beq c c' && ((match e with | true => e' | false => !e') && Nat.beq s s')))) | _ => false
  | .mp x => match b with | .mp y => Nat.beq x y | _ => false
  | _ => false
noncomputable def sameN (n : Nat) : AV → AV → Bool :=
  Nat.rec (motive := fun _ => AV → AV → Bool) (fun _ _ => false) (fun _ ih a b => match a with
    | .agg l => match b with | .agg l' => all2 ih l l' | _ => false
    | .tup l => match b with | .tup l' => all2 ih l l' | _ => false
    | .fn f x c => match b with | .fn f' x' c' => Nat.beq f f' && (all2 ih x x' && all2 ih c c') | _ => false
    | .str s => match b with | .str s' => eqS s s' | _ => false
    | a => sameLeaf a b) n
 where all2 (p : AV → AV → Bool) (l l' : List AV) : Bool := match l with
  | [] => match l' with | [] => true | _ => false
  | a :: l => match l' with
    | [] => false
    | b :: l' => match p a b with | true => all2 p l l' | false => false
noncomputable def checkRds (h : Hp) (l : List Rd) : Bool := match l with
  | [] => true
  | r :: l => match r.f h with
    | some v => match sameN 4 r.v v with | true => checkRds h l | false => false
    | none => false
noncomputable def goDraw (n : Nat) (cf : CallF) (base : Nat) (l : List DI) : PT AV → Hp → List Put → List Rd → Nat → Res :=
  List.rec (motive := fun _ => PT AV → Hp → List Put → List Rd → Nat → Res)
    (fun ρ hs ps _ _ => Hp.frcH (putAll ps hs) fun h => .one .nrm ρ h)
    (fun it _ ih ρ hs ps rs E => match it with
      | .mk i (.mk g d ins) A q => match wantA g ρ with
        | none => .no
        | some false => setK .no n d skipV ρ fun ρ => ih ρ hs ps rs E
        | some true => match ins with
          | .free f => match f ρ hs with
            | some v => setK .no n d v ρ fun ρ => ih ρ hs ps rs E
            | none => .no
          | .read f => match Nat.beq (Nat.land E A) E with
            | true => match f ρ hs with
              | some v => setK .no n d v ρ fun ρ' => ih ρ' hs ps (⟨i, f ρ, v⟩ :: rs) E
              | none => .no
            | false => .no
          | .mk f => match f ρ with
            | some (x, g) => frc (Nat.add base q) fun b => setK .no n d (g b) ρ fun ρ => ih ρ hs (⟨b, i, x⟩ :: ps) rs E
            | none => .no
          | .eff f => match Nat.beq (Nat.land E A) E && within A ps with
            | true => Hp.frcH (putAll ps hs) fun hb => match f ρ hb with
              | some (v, h') => Hp.frcH h' fun h' => match checkRds h' (stillOpen A rs) with
                | true => frc (Nat.lor E (Nat.shiftLeft 1 i)) fun E' => setK .no n d v ρ fun ρ => ih ρ h' [] (stillOpen A rs) E'
                | false => .no
              | none => .no
            | false => .no
          | .call f => match Nat.beq (Nat.land E A) E && within A ps with
            | true => Hp.frcH (putAll ps hs) fun hb => match f ρ hb with
              | some x => match x with
                | .val v h' => Hp.frcH h' fun h' => match checkRds h' (stillOpen A rs) with
                  | true => frc (Nat.lor E (Nat.shiftLeft 1 i)) fun E' => setK .no n d v ρ fun ρ => ih ρ h' [] (stillOpen A rs) E'
                  | false => .no
                | .call g as => match cf g as hb with
                  | some (v, h') => Hp.frcH h' fun h' => match checkRds h' (stillOpen A rs) with
                    | true => frc (Nat.lor E (Nat.shiftLeft 1 i)) fun E' => setK .no n d v ρ fun ρ => ih ρ h' [] (stillOpen A rs) E'
                    | false => .no
                  | none => .no
              | none => .no
            | false => .no
          | _ => .no) l
/-! ### the plan fits the region -/
def looksL (ops : Array Oper) (o : Oper) : List Nat := o.looksAt ops
/-- whoever is not ahead of the other one is apart from it -/
def apartAll (ops : Array Oper) (os : List Oper) (As : List Nat) : Bool :=
  ((List.range os.length).all fun i => (List.range os.length).all fun j => match os[i]?, os[j]?, As[i]?, As[j]? with
    | some x, some y, some A, some B => i == j || ((match x.dst, y.dst with | some d, some e => d != e | _, _ => true) &&
        (Nat.testBit A j || Nat.testBit B i || (match x.dst with | some d => !(y.looksAt ops).contains d | none => true)))
    | _, _, _, _ => false)
/-- each is taken once, behind all that are ahead of it; none is left out; the new blocks are numbered in turn -/
def orderOk (full : Nat) : List DI → Nat → Nat → Bool
  | [], done, _ => Nat.beq done full
  | .mk i c A q' :: l, done, q => !Nat.testBit done i && (Nat.beq (Nat.land A done) A && match c.isMk with
    | true => Nat.beq q' q && orderOk full l (Nat.lor done (Nat.shiftLeft 1 i)) (Nat.add q 1)
    | false => orderOk full l (Nat.lor done (Nat.shiftLeft 1 i)) q)
noncomputable def planOk (P : Program) (G : Nat) (ops : Array Oper) : Bool :=
  apartAll ops ops.toList (ancs ops.toList) && (orderOk (Nat.sub (Nat.pow 2 ops.size) 1) (planA P G ops) 0 0)
noncomputable def evalDraw (P : Program) (G : Nat) (n : Nat) (cf : CallF) (ops : Array Oper) (ρ : PT AV) (h : Hp) : Res := match h with
  | .mk t m l => frc (Nat.add m (DI.count (planA P G ops))) fun m' => goDraw n cf m (planA P G ops) ρ (.mk t m' l) [] [] 0
end
section
noncomputable def Res.bind (r : Res) (k : PT AV → Hp → Res) : Res :=
  Res.rec (motive := fun _ => Res) .no (fun e ρ h => match e with | .nrm => k ρ h | .exit i => .one (.exit i) ρ h | .goto l => .one (.goto l) ρ h | .ret => .one .ret ρ h) (fun _ _ a b => .alt a b) r
noncomputable def blockR (id : Nat) (r : Res) : Res :=
  Res.rec (motive := fun _ => Res) .no (fun e ρ h => match e with | .nrm => .one .nrm ρ h | .exit i => (match Nat.beq i id with | true => .one .nrm ρ h | false => .one (.exit i) ρ h) | .goto l => .one (.goto l) ρ h | .ret => .one .ret ρ h) (fun _ _ a b => .alt a b) r
noncomputable def scopeR (r : Res) : Res :=
  Res.rec (motive := fun _ => Res) .no (fun e ρ h => match e with | .nrm => .one .nrm ρ h | .exit i => .one (.exit i) ρ h | .goto _ => .no | .ret => .one .ret ρ h) (fun _ _ a b => .alt a b) r
noncomputable def loopN (d : PT AV → Hp → Res) (fuel : Nat) : PT AV → Hp → Res :=
  Nat.rec (motive := fun _ => PT AV → Hp → Res) (fun _ _ => .no) (fun _ ih ρ h => (d ρ h).bind ih) fuel
noncomputable def den (P : Program) (G n : Nat) (cf : CallF) (c : Code) : PT AV → Hp → Res :=
  Code.rec (motive := fun _ => PT AV → Hp → Res)
    (fun ρ h => .one .nrm ρ h)
    (fun _ ops draw => match draw with
      | false => evalOps n cf (ops.toList.map (compO P G ops))
      | true => evalDraw P G n cf ops)
    (fun _ _ a b ρ h => (a ρ h).bind b)
    (fun x _ _ a b ρ h => match rd G ρ x with
      | some (.bool t) => match t with
        | true => a ρ h
        | false => b ρ h
      | _ => .no)
    (fun id _ b ρ h => blockR id (b ρ h))
    (fun _ b => loopN b 1000000)
    (fun _ _ _ _ _ _ _ _ => .no)
    (fun id ρ h => .one (.exit id) ρ h)
    (fun _ b ρ h => scopeR (b ρ h))
    (fun _ ρ h => .one .nrm ρ h)
    (fun l ρ h => .one (.goto l) ρ h)
    (fun ρ h => .one .ret ρ h)
    (fun _ _ _ => .no) c
noncomputable def ret1 (P : Program) (x : ResultVar) (ρ : PT AV) (h : Hp) : Option AV := match x with
  | .tmp t => ρ.get (Ps.of t)
  | .cell a t => match ρ.get (Ps.of a) with
    | some (.ptr b off) => match tagg P t with
      | some true => match tsize P t with
        | some k => match hRead h b off k with
          | some as => some (.agg as)
          | none => none
        | none => none
      | some false => match h.get b with
        | some (.row _ lo n z cs) => cellA z lo n cs off
        | _ => none
      | none => none
    | _ => none
noncomputable def retL (P : Program) (l : List ResultVar) (ρ : PT AV) (h : Hp) : Option (List AV) :=
  List.rec (motive := fun _ => Option (List AV)) (some []) (fun x _ ih => match ret1 P x ρ h with
    | some v => match ih with
      | some r => some (v :: r)
      | none => none
    | none => none) l
noncomputable def retA (P : Program) (fn : Func) (ρ : PT AV) (h : Hp) : Option AV := match retL P fn.results.toList ρ h with
  | some l => match l with
    | [v] => some v
    | l => some (.tup l)
  | none => none
/-- the ways a body may end: what it returns, and what it leaves -/
noncomputable def endOne (P : Program) (fn : Func) (e : Ex) (ρ : PT AV) (h : Hp) : Option (List (AV × Hp)) := match e with
  | .nrm => match retA P fn ρ h with | some v => some [(v, h)] | none => none
  | .ret => match retA P fn ρ h with | some v => some [(v, h)] | none => none
  | _ => none
noncomputable def ends (P : Program) (fn : Func) (r : Res) : Option (List (AV × Hp)) :=
  Res.rec (motive := fun _ => Option (List (AV × Hp))) none
    (fun e ρ h => endOne P fn e ρ h)
    (fun _ _ a b => match a with
      | some a => match b with
        | some b => some (a ++ b)
        | none => none
      | none => none) r
structure Cfg where
  fence : FuncId → Bool
  open_ : Hp → Hp
  merge : Hp → List (AV × Hp) → Option (AV × Hp)
  summ : FuncId → Option (List AV → Hp → Option (AV × Hp))
/-- what is known of a call beforehand -/
noncomputable def sumA (cfg : Cfg) (f : FuncId) (as : List AV) (h : Hp) : Option (AV × Hp) := match cfg.summ f with
  | some s => s as h
  | none => none
noncomputable def bodyA (P : Program) (G : Nat) (cfg : Cfg) (cf : CallF) (f : FuncId) (as : List AV) (h : Hp) : Option (AV × Hp) := match P.funcs[f]? with
  | some fn => match fn.body with
    | some c => match cfg.fence f with
      | false => (mkRow as 0 .lf).frc fun ρ => match ends P fn (den P G fn.ntmps cf c ρ h) with
        | some [x] => some x
        | _ => none
      | true => (mkRow as 0 .lf).frc fun ρ => Hp.frcH (cfg.open_ h) fun ho => match ends P fn (den P G fn.ntmps cf c ρ ho) with
        | some l => cfg.merge h l
        | none => none
    | none => none
  | none => none
noncomputable def callN (P : Program) (G : Nat) (cfg : Cfg) (fuel : Nat) : CallF :=
  Nat.rec (motive := fun _ => CallF) (fun _ _ _ => none) (fun _ ih f as h => match sumA cfg f as h with
    | some r => some r
    | none => bodyA P G cfg ih f as h) fuel
end
section
theorem Res.bind_no (k) : Res.bind .no k = .no := rfl
theorem Res.bind_one (e ρ h k) : Res.bind (.one e ρ h) k = (match e with | .nrm => k ρ h | .exit i => .one (.exit i) ρ h | .goto l => .one (.goto l) ρ h | .ret => .one .ret ρ h) := rfl
theorem Res.bind_alt (a b k) : Res.bind (.alt a b) k = .alt (Res.bind a k) (Res.bind b k) := rfl
/-- what follows, if nothing jumps -/
def thenK (k : PT AV → Hp → Res) (K : Ex → PT AV → Hp → Prop) : Ex → PT AV → Hp → Prop
  | .nrm, ρ, h => (k ρ h).all K
  | .exit i, ρ, h => K (.exit i) ρ h
  | .goto l, ρ, h => K (.goto l) ρ h
  | .ret, ρ, h => K .ret ρ h
theorem Res.all_bind {K} {k} : ∀ {r : Res}, (r.bind k).all K → r.all (thenK k K)
  | .no, hh => hh
  | .one e ρ h, hh => by rw [Res.bind_one] at hh; cases e <;> exact hh
  | .alt a b, hh => by rw [Res.bind_alt] at hh; exact ⟨Res.all_bind hh.1, Res.all_bind hh.2⟩
theorem blockR_all {K} {id : Nat} : ∀ {r : Res}, (blockR id r).all K → r.all (fun e ρ h => match e with | .exit i => if i = id then K .nrm ρ h else K (.exit i) ρ h | e => K e ρ h)
  | .no, hh => hh
  | .one e ρ h, hh => by
    cases e with
    | exit i =>
      have hh : (match Nat.beq i id with | true => Res.one .nrm ρ h | false => .one (.exit i) ρ h).all K := hh
      show if i = id then K .nrm ρ h else K (.exit i) ρ h
      by_cases e : i = id
      · rw [if_pos e]
        have : Nat.beq i id = true := by simpa using e
        rw [this] at hh
        exact hh
      · rw [if_neg e]
        have : Nat.beq i id = false := by rw [Bool.eq_false_iff]; intro hc; exact e (by simpa using hc)
        rw [this] at hh
        exact hh
    | nrm => exact hh
    | goto l => exact hh
    | ret => exact hh
  | .alt a b, hh => ⟨blockR_all hh.1, blockR_all hh.2⟩
theorem scopeR_all {K} : ∀ {r : Res}, (scopeR r).all K → r.all (fun e ρ h => match e with | .goto _ => False | e => K e ρ h)
  | .no, hh => hh
  | .one e ρ h, hh => by cases e <;> exact hh
  | .alt a b, hh => ⟨scopeR_all hh.1, scopeR_all hh.2⟩
theorem Res.all_mono {K K' : Ex → PT AV → Hp → Prop} (hk : ∀ e ρ h, K e ρ h → K' e ρ h) : ∀ {r : Res}, r.all K → r.all K'
  | .no, hh => hh
  | .one _ _ _, hh => hk _ _ _ hh
  | .alt _ _, hh => ⟨Res.all_mono hk hh.1, Res.all_mono hk hh.2⟩
/-- a loop that ends within so many rounds -/
theorem wp_loop_fuel {P : Program} {c : Code} {Q : Exit → Act → World → Prop} (J : Nat → Act → World → Prop) (no : ∀ a w, ¬ J 0 a w)
    (round : ∀ m a w, J (m + 1) a w → c.wp P (Exit.then (J m) Q) a w) {m : Nat} {a : Act} {w : World} (h₀ : J m a w) : (Code.loop c).wp P Q a w := by
  intro b k cs
  have key : ∀ m a w, J m a w → ∃ e a' w', Q e a' w' ∧ Arrives P (lone (b.at a (.code c :: .inLoop c :: k)) cs w) b k cs e a' w' := by
    intro m
    induction m with
    | zero => intro a w hJ; exact absurd hJ (no a w)
    | succ m ih =>
      intro a w hJ
      obtain ⟨e, a₁, w₁, hq, harr⟩ := round m a w hJ b (.inLoop c :: k) cs
      cases e with
      | normal =>
        obtain ⟨e₂, a₂, w₂, hq₂, harr₂⟩ := ih a₁ w₁ hq
        exact ⟨e₂, a₂, w₂, hq₂, .of_steps (Steps.trans harr (.one step_inLoop)) harr₂⟩
      | exit id => exact ⟨_, a₁, w₁, hq, .pass (x := .inLoop c) rfl (fun _ _ => .inl (by simp)) harr⟩
      | goto l => exact ⟨_, a₁, w₁, hq, .pass (x := .inLoop c) rfl (fun _ _ => .inl (by simp)) harr⟩
      | ret => exact ⟨_, a₁, w₁, hq, .pass (x := .inLoop c) rfl (fun _ _ => .inl (by simp)) harr⟩
      | panic ch => exact ⟨_, a₁, w₁, hq, .pass (x := .inLoop c) rfl (fun _ _ => .inl (by simp)) harr⟩
      | outgrown => exact ⟨_, a₁, w₁, hq, .pass (x := .inLoop c) rfl (fun _ _ => .inl (by simp)) harr⟩
  obtain ⟨e, a', w', hq, harr⟩ := key m a w h₀
  exact ⟨e, a', w', hq, .of_steps (.one step_loop) harr⟩
section
variable {P : Program} {G : Nat}
/-- what is said of code is what the model does -/
def SemOk (P : Program) (G n : Nat) (d : PT AV → Hp → Res) (c : Code) : Prop := ∀ K (Q : Exit → Act → World → Prop) φ ρ h w (a : Act), (d ρ h).all K → EnvRel n φ ρ a.tmps → SRel G φ h w →
  (∀ e ρ' h' φ' a' w', K e ρ' h' → Tr G φ h w φ' h' w' → EnvRel n φ' ρ' a'.tmps → a'.defers = a.defers → Q e.toExit a' w') → c.wp P Q a w
theorem SemOk.seq {n : Nat} {d d' : PT AV → Hp → Res} {c c' : Code} (h1 : SemOk P G n d c) (h2 : SemOk P G n d' c') : SemOk P G n (fun ρ h => (d ρ h).bind d') (.seq c c') := by
  intro K Q φ ρ h w a hh r s hq
  refine wp_seq (h1 _ _ φ ρ h w a (Res.all_bind hh) r s ?_)
  intro e ρ' h' φ' a' w' hk t r' hd
  cases e with
  | nrm => exact h2 K Q φ' ρ' h' w' a' hk r' t.rel fun e ρ'' h'' φ'' a'' w'' k1 k2 k3 k4 => hq e ρ'' h'' φ'' a'' w'' k1 (t.trans s k2) k3 (k4.trans hd)
  | exit i => exact hq _ ρ' h' φ' a' w' hk t r' hd
  | goto l => exact hq _ ρ' h' φ' a' w' hk t r' hd
  | ret => exact hq _ ρ' h' φ' a' w' hk t r' hd
theorem SemOk.loop {n : Nat} {d : PT AV → Hp → Res} {c : Code} (h1 : SemOk P G n d c) (fuel : Nat) : SemOk P G n (loopN d fuel) (.loop c) := by
  intro K Q φ ρ h w a hh r s hq
  refine wp_loop_fuel (m := fuel) (fun m a' w' => ∃ ρ' h' φ', (loopN d m ρ' h').all K ∧ Tr G φ h w φ' h' w' ∧ EnvRel n φ' ρ' a'.tmps ∧ a'.defers = a.defers) ?_ ?_ ⟨ρ, h, φ, hh, Tr.refl s, r, rfl⟩
  · rintro a w ⟨ρ', h', φ', hh, -⟩
    exact hh
  · rintro m a' w' ⟨ρ', h', φ', hh, t, r', hd⟩
    have hh : ((d ρ' h').bind (loopN d m)).all K := hh
    refine h1 _ _ φ' ρ' h' w' a' (Res.all_bind hh) r' t.rel ?_
    intro e ρ'' h'' φ'' a'' w'' hk t' r'' hd'
    cases e with
    | nrm => exact ⟨ρ'', h'', φ'', hk, t.trans s t', r'', hd'.trans hd⟩
    | exit i => exact hq _ ρ'' h'' φ'' a'' w'' hk (t.trans s t') r'' (hd'.trans hd)
    | goto l => exact hq _ ρ'' h'' φ'' a'' w'' hk (t.trans s t') r'' (hd'.trans hd)
    | ret => exact hq _ ρ'' h'' φ'' a'' w'' hk (t.trans s t') r'' (hd'.trans hd)
end
end
end Go.Ev
