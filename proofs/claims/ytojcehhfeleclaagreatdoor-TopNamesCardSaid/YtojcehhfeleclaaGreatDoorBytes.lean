/-
  Words for byte slices of the call's own, and for those that came in. No program in sight. No condition.
-/
import Derived.Test.YtojcehhfeleclaaGreatDoorOpen
import Derived.Deep.AppendLies
import Derived.Laws.CopyOwn
import Derived.Laws.MakeOwn
import Derived.Maps.AppendAt
import Derived.Laws.IdiomStrings
import Derived.Laws.BytesArg
namespace Go.Proofs.YtojcehhfeleclaaGreatDoor
open Go.ChangeShapes Go.WideShapes Go.ChangeAt Go.RowKit

theorem vb_one (bs : List UInt8) : ∀ u ∈ bs.map vb, u.oneCell' = true := by
  intro u hu
  obtain ⟨_, _, rfl⟩ := List.mem_map.1 hu
  rfl
theorem own_below {w w' : World} {B B' : Nat} {e : TypeId} {size n : Nat} {v : Value} {xs : List Value} (h : w.ownsRow B' e size v n xs) (hb : Below B w w') (hlt : w.heap.size ≤ B) : w'.ownsRow B' e size v n xs := by
  refine ⟨h.1, ?_⟩
  rcases h.2 with h2 | ⟨g, cap, cur, hv, hg, hh, r⟩
  · exact .inl h2
  · refine .inr ⟨g, cap, cur, hv, hg, ?_, r⟩
    have : g < w.heap.size := by
      rcases Nat.lt_or_ge g w.heap.size with hl | hge
      · exact hl
      · rw [Array.getElem?_eq_none hge] at hh; cases hh
    rw [hb.block g (by omega)]; exact hh
theorem own_only {w w' : World} {S : Nat → Prop} {B' : Nat} {e : TypeId} {size n : Nat} {v : Value} {xs : List Value} (h : w.ownsRow B' e size v n xs) (ho : Only S w w') (hS : ∀ k, v.ownBlock = some k → ¬ S k) : w'.ownsRow B' e size v n xs := by
  refine ⟨h.1, ?_⟩
  rcases h.2 with h2 | ⟨g, cap, cur, hv, hg, hh, r⟩
  · exact .inl h2
  · refine .inr ⟨g, cap, cur, hv, hg, ?_, r⟩
    have : g < w.heap.size := by
      rcases Nat.lt_or_ge g w.heap.size with hl | hge
      · exact hl
      · rw [Array.getElem?_eq_none hge] at hh; cases hh
    rw [ho.block g this (hS g (by rw [hv]; rfl))]; exact hh
theorem own_mono {w : World} {B B' : Nat} {e : TypeId} {size n : Nat} {v : Value} {xs : List Value} (h : w.ownsRow B' e size v n xs) (hB : B ≤ B') : w.ownsRow B e size v n xs := by
  refine ⟨h.1, ?_⟩
  rcases h.2 with h2 | ⟨g, cap, cur, hv, hg, r⟩
  · exact .inl h2
  · exact .inr ⟨g, cap, cur, hv, by omega, r⟩
/-- what is owned, as a reading -/
theorem own_reads {w : World} {B : Nat} {e : TypeId} {n : Nat} {v : Value} {xs : List Value} (h : w.ownsRow B e 1 v n xs) : ∃ A c, v = .slice A n c ∧ n ≤ c ∧ c ≤ maxLen ∧ (A = none → c = 0) ∧ Reads w (fun k => B ≤ k ∧ v.ownBlock = some k) A xs := by
  have h1 := h.1
  rcases h.2 with ⟨rfl, rfl⟩ | ⟨g, cap, cur, hv, hg, hh, hn, hc, hs, ht⟩
  · have : xs = [] := List.eq_nil_of_length_eq_zero (by simpa using h1)
    subst this
    exact ⟨none, 0, rfl, by omega, by simp, fun _ => rfl, Reads.nil⟩
  · refine ⟨some ⟨g, 0, none⟩, cap, hv, hn, hc, (fun e => by cases e), .inr ⟨g, 0, rfl, ⟨hg, by rw [hv]; rfl⟩, ?_, fun j u hj => ?_⟩⟩
    · rcases Nat.lt_or_ge g w.heap.size with hl | hge
      · exact hl
      · rw [Array.getElem?_eq_none hge] at hh; cases hh
    · have hc' := h.cells (g := g) (by rw [hv]; rfl) j u hj
      rw [addr_add rfl] at hc'
      exact hc'
/-- a full row of the call's own is a block that is known whole -/
theorem own_full {w : World} {B : Nat} {e : TypeId} {g n : Nat} {xs : List Value} (h : w.ownsRow B e 1 (.slice (some ⟨g, 0, none⟩) n n) n xs) : Blk w g e xs.toArray := by
  rcases h.2 with ⟨hv, _⟩ | ⟨g', cap, cur, hv, _, hh, _, _, hs, ht⟩
  · cases hv
  · injection hv with h1 h2 h3
    injection h1 with h1
    injection h1 with h1
    subst h1; subst h3
    unfold Blk
    rw [hh]
    congr
    rw [← ht, Nat.mul_one, List.take_of_length_le (by simp; omega)]
theorem replicate_vb (n : Nat) : List.replicate n (Value.int .u8 0) = (List.replicate n (0 : UInt8)).map vb := by simp [vb]
theorem splice_vb (bs : List UInt8) (M : Nat) : splice (List.replicate M (Value.int .u8 0)) 0 (bs.map vb) = (bs ++ List.replicate (M - bs.length) 0).map vb := by
  unfold splice
  simp [vb]

/-! ### append onto a row of the call's own, whatever the source: nil, empty, cut or whole -/
section
variable {P : Program} (w : World)
theorem run_append_rd (base : Nat) (t ty e : TypeId) (i : TypeInfo) (z : Value) (size bytes : Nat) (ht : P.underlying t = some (.slice e)) (hi : P.info? e = some i) (hz : i.zero = some z)
    (hsize : i.size = size) (hby : i.bytes = bytes) (hzs : z.cells.size = size) (hsz : 0 < size)
    (v : Value) (n : Nat) (xs : List Value) (hown : w.ownsRow base e size v n xs) (F : Nat → Prop) (A : Option Addr) (m c : Nat) (news : List Value) (hl : news.length = m * size) (hr : Reads w F A news)
    (h1 : ∀ u ∈ news, u.oneCell' = true) (h63 : n + m ≤ maxLen) (hbytes : (n + m) * bytes ≤ 140737488355328) (hbase : base ≤ w.heap.size) :
    ∃ v' w', (Builtin.append_ #[t, t] ty #[v, .slice A m c]).run P w = .ok v' w' ∧ w'.ownsRow base e size v' (n + m) (xs ++ news) ∧ w.grownBy w' v.ownBlock ∧ (v'.ownBlock = v.ownBlock ∨ v'.ownBlock = some w.heap.size) := by
  have hnil : m = 0 → news = [] := fun h0 => List.eq_nil_of_length_eq_zero (by rw [hl, h0, Nat.zero_mul])
  rcases A with _ | ad
  · have hm : m = 0 := by
      rcases hr with h | ⟨b, off, h, _⟩
      · subst h
        rcases Nat.mul_eq_zero.1 (show m * size = 0 from by simpa using hl.symm) with h | h <;> omega
      · cases h
    have hn := hnil hm
    subst hm; subst hn
    refine ⟨v, w, ?_, by simpa using hown, World.grownBy.refl w _, .inl rfl⟩
    rcases hown.2 with ⟨rfl, rfl⟩ | ⟨g, cap, cur, rfl, _, _, hnc, _⟩
    · simp [Builtin.append_, run_underlying ht, sizeOf, typeInfo, hi, Builtin.lenOf, Builtin.firstCells]
    · simp [Builtin.append_, run_underlying ht, sizeOf, typeInfo, hi, Builtin.lenOf, Builtin.firstCells, hnc, storeCells]
  · have hcells : ∀ j u, news[j]? = some u → w.cell? (ad.add j) = some u := by
      intro j u hu
      rcases hr with h | ⟨b, off, h, _, _, hc⟩
      · subst h; simp at hu
      · injection h with h
        rw [addr_add h]
        exact hc j u hu
    obtain ⟨v', w', hrun, h2, h3, _, h5⟩ := run_append_own_at (P := P) w base t ty e i z size bytes ht hi hz hsize hby hzs hsz v n xs hown ad m c news hl hcells h1 h63 hbytes hbase
    exact ⟨v', w', hrun, h2, h3, h5⟩

theorem wp_append_rd {o : Oper} {a : Act} {K : Act → World → Prop} {Q : Exit → Act → World → Prop} (s x : Operand) (t : TypeId) (ho : o.op = .call { callee := .builtin .append, args := #[s, x], argTypes := #[t, t] })
    (base : Nat) (e : TypeId) (i : TypeInfo) (z : Value) (size bytes : Nat) (ht : P.underlying t = some (.slice e)) (hi : P.info? e = some i) (hz : i.zero = some z)
    (hsize : i.size = size) (hby : i.bytes = bytes) (hzs : z.cells.size = size) (hsz : 0 < size)
    (v : Value) (n : Nat) (xs : List Value) (hs : a.eval s = v) (hown : w.ownsRow base e size v n xs) (F : Nat → Prop) (A : Option Addr) (m c : Nat) (news : List Value) (hx : a.eval x = .slice A m c) (hl : news.length = m * size) (hr : Reads w F A news)
    (h1 : ∀ u ∈ news, u.oneCell' = true) (h63 : n + m ≤ maxLen) (hbytes : (n + m) * bytes ≤ 140737488355328) (hbase : base ≤ w.heap.size)
    (h : ∀ v' w', w'.ownsRow base e size v' (n + m) (xs ++ news) → w.grownBy w' v.ownBlock → (v'.ownBlock = v.ownBlock ∨ v'.ownBlock = some w.heap.size) → K (a.put o.dst v') w') : o.wp P a w K Q := by
  obtain ⟨v', w', hrun, h2, h3, h4⟩ := run_append_rd (P := P) w base t o.type e i z size bytes ht hi hz hsize hby hzs hsz v n xs hown F A m c news hl hr h1 h63 hbytes hbase
  unfold Oper.wp execOp
  simp only [ho, resolve, invoke, builtin, Sem.run_bind, Sem.run_pure, Result.andThen_ok, List.map_toArray, List.map_cons, List.map_nil, hs, hx, hrun]
  exact h v' w' h2 h3 h4

theorem wpList_append_rd {ops : Array Oper} {rest : List Oper} {o : Oper} {a : Act} {Q : Exit → Act → World → Prop} (hgd : Region.wanted o (yielded ops a.tmps) = true) (s x : Operand) (t : TypeId)
    (ho : o.op = .call { callee := .builtin .append, args := #[s, x], argTypes := #[t, t] })
    (base : Nat) (e : TypeId) (i : TypeInfo) (z : Value) (size bytes : Nat) (ht : P.underlying t = some (.slice e)) (hi : P.info? e = some i) (hz : i.zero = some z)
    (hsize : i.size = size) (hby : i.bytes = bytes) (hzs : z.cells.size = size) (hsz : 0 < size)
    (v : Value) (n : Nat) (xs : List Value) (hs : a.eval s = v) (hown : w.ownsRow base e size v n xs) (F : Nat → Prop) (A : Option Addr) (m c : Nat) (news : List Value) (hx : a.eval x = .slice A m c) (hl : news.length = m * size) (hr : Reads w F A news)
    (h1 : ∀ u ∈ news, u.oneCell' = true) (h63 : n + m ≤ maxLen) (hbytes : (n + m) * bytes ≤ 140737488355328) (hbase : base ≤ w.heap.size)
    (h : ∀ v' w', w'.ownsRow base e size v' (n + m) (xs ++ news) → w.grownBy w' v.ownBlock → (v'.ownBlock = v.ownBlock ∨ v'.ownBlock = some w.heap.size) → wpList P ops Q rest (a.put o.dst v') w') : wpList P ops Q (o :: rest) a w :=
  wpList_wanted hgd fun _ hK => wp_append_rd w s x t ho base e i z size bytes ht hi hz hsize hby hzs hsz v n xs hs hown F A m c news hx hl hr h1 h63 hbytes hbase fun v' w' h2 h3 h4 => hK _ _ (h v' w' h2 h3 h4)

theorem step_append_rd {ops : Array Oper} {o : Oper} {a : Act} {K : Act → World → Prop} {Q : Exit → Act → World → Prop} {E : Prop} (hgd : o.guard = none) (s x : Operand) (t : TypeId)
    (ho : o.op = .call { callee := .builtin .append, args := #[s, x], argTypes := #[t, t] })
    (base : Nat) (e : TypeId) (i : TypeInfo) (z : Value) (size bytes : Nat) (ht : P.underlying t = some (.slice e)) (hi : P.info? e = some i) (hz : i.zero = some z)
    (hsize : i.size = size) (hby : i.bytes = bytes) (hzs : z.cells.size = size) (hsz : 0 < size)
    (v : Value) (n : Nat) (xs : List Value) (hs : a.eval s = v) (hown : w.ownsRow base e size v n xs) (F : Nat → Prop) (A : Option Addr) (m c : Nat) (news : List Value) (hx : a.eval x = .slice A m c) (hl : news.length = m * size) (hr : Reads w F A news)
    (h1 : ∀ u ∈ news, u.oneCell' = true) (h63 : n + m ≤ maxLen) (hbytes : (n + m) * bytes ≤ 140737488355328) (hbase : base ≤ w.heap.size)
    (h : ∀ v' w', w'.ownsRow base e size v' (n + m) (xs ++ news) → w.grownBy w' v.ownBlock → (v'.ownBlock = v.ownBlock ∨ v'.ownBlock = some w.heap.size) → K (a.put o.dst v') w') :
    if Region.wanted o (yielded ops a.tmps) = true then Oper.wp P o a w K Q else E := by
  have hw : Region.wanted o (yielded ops a.tmps) = true := by simp [Region.wanted, hgd]
  rw [if_pos hw]
  exact wp_append_rd w s x t ho base e i z size bytes ht hi hz hsize hby hzs hsz v n xs hs hown F A m c news hx hl hr h1 h63 hbytes hbase h
end
/-! ### cuts: 'x[lo:hi]' of a slice of one-cell elements, whatever its address -/
def cutA (A : Option Addr) (c k : Nat) : Option Addr := if c = k then A else A.map (·.add k)
theorem Reads.cut {w : World} {F : Nat → Prop} {A : Option Addr} {xs : List Value} (h : Reads w F A xs) {c : Nat} (hx : xs.length ≤ c) (k : Nat) : Reads w F (cutA A c k) (xs.drop k) :=
  h.drop fun hk b off e => by
    unfold cutA
    rw [if_neg (by omega), e, Option.map_some, addr_add rfl]
theorem cutA_none {A : Option Addr} {c k : Nat} (h : A = none → c = 0) (hk : k ≤ c) : cutA A c k = none → c - k = 0 := by
  unfold cutA
  split
  · omega
  · intro e
    cases A with
    | none => have := h rfl; omega
    | some a => cases e
section
variable {P : Program} (w : World) (t e : TypeId) (ht : P.underlying t = some (.slice e)) (hs : (P.info? e).map (·.size) = some 1) (A : Option Addr) (len c : Nat)
include ht hs
theorem run_cut_to (k : Nat) (hk : k ≤ c) : (Instr.sliceAt t (.slice A len c) none (some (.int .i64 k)) none).run P w = .ok (.slice (cutA A c 0) k c) w := by
  cases hq : P.info? e with
  | none => simp [hq] at hs
  | some i =>
    have hi : i.size = 1 := by simpa [hq] using hs
    have he : P.elem t = e := by simp [Program.elem, ht]
    have ht' : P.underlying t = some (.slice (P.elem t)) := by rw [he]; exact ht
    rw [run_sliceAt_slice w t _ _ _ _ ht', run_slice_h w t A len c ht' .i64 (k : Int) (by omega) (by omega)]
    simp [he, sizeOf, typeInfo, hq, hi, sliced, cutA, Result.andThen]
theorem run_cut_from (k : Nat) (hk : k ≤ len) : (Instr.sliceAt t (.slice A len c) (some (.int .i64 k)) none none).run P w = .ok (.slice (cutA A c k) (len - k) (c - k)) w := by
  cases hq : P.info? e with
  | none => simp [hq] at hs
  | some i =>
    have hi : i.size = 1 := by simpa [hq] using hs
    have he : P.elem t = e := by simp [Program.elem, ht]
    have ht' : P.underlying t = some (.slice (P.elem t)) := by rw [he]; exact ht
    rw [run_sliceAt_slice w t _ _ _ _ ht', run_slice_l w t A len c ht' .i64 (k : Int) (by omega) (by omega)]
    simp [he, sizeOf, typeInfo, hq, hi, sliced, cutA, Result.andThen]
theorem run_cut_mid (k h : Nat) (hk : k ≤ h) (hh : h ≤ c) : (Instr.sliceAt t (.slice A len c) (some (.int .i64 k)) (some (.int .i64 h)) none).run P w = .ok (.slice (cutA A c k) (h - k) (c - k)) w := by
  cases hq : P.info? e with
  | none => simp [hq] at hs
  | some i =>
    have hi : i.size = 1 := by simpa [hq] using hs
    have he : P.elem t = e := by simp [Program.elem, ht]
    have ht' : P.underlying t = some (.slice (P.elem t)) := by rw [he]; exact ht
    rw [run_sliceAt_slice w t _ _ _ _ ht', run_slice_lh w t A len c ht' .i64 .i64 (k : Int) (h : Int) (by omega) (by omega) (by omega)]
    simp [he, sizeOf, typeInfo, hq, hi, sliced, cutA, Result.andThen]
end
section
variable {P : Program} {ops : Array Oper} {rest : List Oper} {o : Oper} {a : Act} {w : World} {Q : Exit → Act → World → Prop}
theorem wpList_cut_to (hg : Region.wanted o (yielded ops a.tmps) = true) (t e : TypeId) (x y : Operand) (ho : o.op = .slice t x none (some y) none) (ht : P.underlying t = some (.slice e)) (hs : (P.info? e).map (·.size) = some 1)
    (A : Option Addr) (len c k : Nat) (K : Int) (hx : a.eval x = .slice A len c) (hy : a.eval y = .int .i64 K) (hK : K = (k : Int)) (hk : k ≤ c) (h : wpList P ops Q rest (a.put o.dst (.slice (cutA A c 0) k c)) w) : wpList P ops Q (o :: rest) a w :=
  wpList_wanted hg fun K' hK' => by
    subst hK
    unfold Oper.wp execOp
    simp only [ho, Option.map_some, Option.map_none, hx, hy, Sem.run_bind, Result.andThen_ok, run_cut_to w t e ht hs A len c k hk, Sem.run_pure]
    exact hK' _ _ h
theorem wpList_cut_from (hg : Region.wanted o (yielded ops a.tmps) = true) (t e : TypeId) (x y : Operand) (ho : o.op = .slice t x (some y) none none) (ht : P.underlying t = some (.slice e)) (hs : (P.info? e).map (·.size) = some 1)
    (A : Option Addr) (len c k : Nat) (K : Int) (hx : a.eval x = .slice A len c) (hy : a.eval y = .int .i64 K) (hK : K = (k : Int)) (hk : k ≤ len) (h : wpList P ops Q rest (a.put o.dst (.slice (cutA A c k) (len - k) (c - k))) w) : wpList P ops Q (o :: rest) a w :=
  wpList_wanted hg fun K' hK' => by
    subst hK
    unfold Oper.wp execOp
    simp only [ho, Option.map_some, Option.map_none, hx, hy, Sem.run_bind, Result.andThen_ok, run_cut_from w t e ht hs A len c k hk, Sem.run_pure]
    exact hK' _ _ h
theorem wpList_cut_mid (hg : Region.wanted o (yielded ops a.tmps) = true) (t e : TypeId) (x y z : Operand) (ho : o.op = .slice t x (some y) (some z) none) (ht : P.underlying t = some (.slice e)) (hs : (P.info? e).map (·.size) = some 1)
    (A : Option Addr) (len c k j : Nat) (K J : Int) (hx : a.eval x = .slice A len c) (hy : a.eval y = .int .i64 K) (hz : a.eval z = .int .i64 J) (hK : K = (k : Int)) (hJ : J = (j : Int)) (hk : k ≤ j) (hj : j ≤ c)
    (h : wpList P ops Q rest (a.put o.dst (.slice (cutA A c k) (j - k) (c - k))) w) : wpList P ops Q (o :: rest) a w :=
  wpList_wanted hg fun K' hK' => by
    subst hK; subst hJ
    unfold Oper.wp execOp
    simp only [ho, Option.map_some, Option.map_none, hx, hy, hz, Sem.run_bind, Result.andThen_ok, run_cut_mid w t e ht hs A len c k j hk hj, Sem.run_pure]
    exact hK' _ _ h
end

/-- 'make([]T, n)', behind a guard or not -/
theorem wpList_make_w {P : Program} (w : World) {ops : Array Oper} {rest : List Oper} {o : Oper} {a : Act} {Q : Exit → Act → World → Prop} (hg : Region.wanted o (yielded ops a.tmps) = true) (l c : Operand) (t : TypeId) (hop : o.op = Op.makeSlice t l c)
    (base : Nat) (e : TypeId) (i : TypeInfo) (z : Value) (size : Nat) (h1 : P.underlying t = some (.slice e)) (h2 : P.info? e = some i) (h3 : i.zero = some z) (h4 : i.size = size)
    (kl kc : IntKind) (L C : Int) (n : Nat) (hl : a.eval l = .int kl L) (hc : a.eval c = .int kc C) (hL : L = (n : Int)) (hC : C = (n : Int)) (b2 : i.bytes * n ≤ 281474976710656) (b3 : n ≤ maxLen) (b4 : base ≤ w.heap.size)
    (hK : ∀ w', w'.ownsRow base e size (.slice (some ⟨w.heap.size, 0, none⟩) n n) n (madeCells z.cells (n * size)).toList → w.grownBy w' none → wpList P ops Q rest (a.put o.dst (.slice (some ⟨w.heap.size, 0, none⟩) n n)) w') :
    wpList P ops Q (o :: rest) a w := by
  refine wpList_wanted hg fun K hK' => ?_
  obtain ⟨w', hrun, r1, r2⟩ := run_make_full (P := P) w base t e i z size h1 h2 h3 h4 kl kc n b2 b3 b4
  subst hL
  subst hC
  unfold Oper.wp
  simp [execOp, hop, hl, hc, hrun, Result.andThen]
  exact hK' _ _ (hK w' r1 r2)

/-- 'string(b)' -/
def str (l : List UInt8) : ByteArray := ⟨l.toArray⟩
theorem run_convert_rd {P : Program} {w : World} {F : Nat → Prop} {A : Option Addr} {l : List UInt8} (src dst e : TypeId) (c : Nat) (hs : P.underlying src = some (.slice e)) (he : P.underlying e = some (.int .u8)) (hd : P.underlying dst = some .string)
    (hr : Reads w F A (l.map vb)) : (convert src dst (.slice A l.length c)).run P w = .ok (.string (str l)) w := by
  rcases hr with h | ⟨b, off, rfl, _, _, hc⟩
  · have : l = [] := by simpa using h
    subst this
    rw [run_convert_bytes_string w src dst e _ _ c hs he hd]
    cases A <;> simp [Conv.bytesToString, loadCells, str]
    all_goals rfl
  · exact run_convert_bytes_back w src dst e _ c l hs he hd (fun j hj => by
      rw [addr_add rfl]
      exact hc j _ (by simp [hj, vb]))
theorem str_toList (l : List UInt8) : (str l).toList = l := by simp [str]
theorem str_eq (a b : List UInt8) : ((str a).toList == (str b).toList) = (a == b) := by rw [str_toList, str_toList]

/-- what 'append' onto an own row leaves below a bound from which on all is the call's own -/
theorem below_append {B : Nat} {w0 w w' : World} {e : TypeId} {size n : Nat} {v : Value} {xs : List Value} (hb : Below B w0 w) (hB : B ≤ w.heap.size) (hown : w.ownsRow B e size v n xs) (hg : w.grownBy w' v.ownBlock) : Below B w0 w' :=
  hb.grown hg hB (fun k hk => (hown.lt k hk).1)
/-- an empty row: 'T{}' -/
theorem own_empty (w : World) (B g : Nat) (e : TypeId) (size : Nat) (hB : B ≤ g) (h : w.heap[g]? = some (.cells #[] e (0, 0))) : w.ownsRow B e size (.slice (some ⟨g, 0, none⟩) 0 0) 0 [] :=
  ⟨by simp, .inr ⟨g, 0, #[], rfl, hB, h, Nat.le_refl _, by simp, by simp, by simp⟩⟩
theorem own_nil (w : World) (B : Nat) (e : TypeId) (size : Nat) : w.ownsRow B e size (.slice none 0 0) 0 [] := ⟨by simp, .inl ⟨rfl, rfl⟩⟩
end Go.Proofs.YtojcehhfeleclaaGreatDoor
