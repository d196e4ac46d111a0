/-
  'lives' of the queue's statements: returns true in every world, and turns nothing that was there. No condition.
-/
import Derived.Test.YtifiabhoeagblaaQueueRef
namespace Go.Proofs.Ytifiabhoeagblaa
open Go.ChangeShapes Go.WideShapes Go.ChangeAt Go.RowKit

/-- a queue of the call's own, in a world that has turned nothing old -/
structure QL (w W : World) (F : Nat → Prop) (qb : Nat) (bs : List UInt8) (room : Nat) : Prop where
  qs : QS W F qb bs room
  lo : ∀ k, F k → w.heap.size ≤ k
  bel : Below w.heap.size w W
/-- a value of the call's own, apart from the blocks F -/
structure OV (W : World) (F : Nat → Prop) (e : TypeId) (v : Value) (n : Nat) (xs : List Value) : Prop where
  own : W.ownsRow 0 e 1 v n xs
  off : ∀ k, v.ownBlock = some k → ¬ F k
section
variable {w W W' : World} {F F' : Nat → Prop} {qb : Nat} {bs bs' : List UInt8} {room : Nat} {e : TypeId} {v : Value} {n : Nat} {xs : List Value}
theorem QL.alloc (h : QL w W F qb bs room) (o : Obj) : QL w (W.alloc o) F qb bs room := ⟨h.qs.below ((Below.refl _ _).alloc (Nat.le_refl _) _), h.lo, h.bel.alloc h.bel.size _⟩
theorem QL.below (h : QL w W F qb bs room) (hb : Below W.heap.size W W') : QL w W' F qb bs room := ⟨h.qs.below hb, h.lo, h.bel.trans (hb.mono h.bel.size)⟩
theorem QL.drewN (h : QL w W F qb bs room) (k : Nat) : QL w (W.drewN k) F qb bs room := h.below ⟨rfl, rfl, rfl, Nat.le_refl _, fun _ _ => rfl⟩
theorem QL.put (h : QL w W F qb bs room) (hF : ∀ k, F' k → F k ∨ W.heap.size ≤ k) (hq : QS W' F' qb bs' room) (ho : Only F W W') : QL w W' F' qb bs' room :=
  ⟨hq, fun k hk => (hF k hk).elim (h.lo k) (fun h2 => Nat.le_trans h.bel.size h2), h.bel.trans (ho.below h.bel.size h.lo)⟩
theorem QL.same (h : QL w W F qb bs room) (hq : QS W' F qb bs' room) (ho : Only F W W') : QL w W' F qb bs' room := h.put (fun _ hk => .inl hk) hq ho
theorem OV.lt (h : OV W F e v n xs) : ∀ k, v.ownBlock = some k → k < W.heap.size := fun k hk => (h.own.lt k hk).2
theorem OV.only (h : OV W F e v n xs) (ho : Only F W W') (hF : ∀ k, F' k → F k ∨ W.heap.size ≤ k) : OV W' F' e v n xs :=
  ⟨own_only h.own ho h.off, fun k hk hf => (hF k hf).elim (h.off k hk) (fun h2 => by have := h.lt k hk; omega)⟩
theorem OV.below (h : OV W F e v n xs) (hb : Below W.heap.size W W') : OV W' F e v n xs := h.only (Only.of_below hb) (fun _ hk => .inl hk)
theorem OV.drewN (h : OV W F e v n xs) (k : Nat) : OV (W.drewN k) F e v n xs := ⟨h.own, h.off⟩
theorem OV.make {B : Nat} (h : W.ownsRow B e 1 v n xs) (hF : ∀ k, F k → k < B) : OV W F e v n xs := ⟨own_mono h (Nat.zero_le _), fun k hk hf => by have := (h.lt k hk).1; have := hF k hf; omega⟩
theorem OV.str {P : Program} {l : List UInt8} {A : Option Addr} {c : Nat} (h : OV W F e (.slice A l.length c) l.length (l.map vb)) (src dst : TypeId) (hs : P.underlying src = some (.slice e)) (he : P.underlying e = some (.int .u8)) (hd : P.underlying dst = some .string) :
    (convert src dst (.slice A l.length c)).run P W = .ok (.string (str l)) W := by
  obtain ⟨A', c', hv, _, _, _, hr⟩ := own_reads h.own
  injection hv with h1 h2 h3
  subst h1
  exact run_convert_rd src dst e c hs he hd hr
theorem reads_new (W : World) (cs : List Value) (t : TypeId) : Reads (W.alloc (.cells cs.toArray t)) (· = W.heap.size) (some ⟨W.heap.size, 0, none⟩) cs :=
  .inr ⟨W.heap.size, 0, rfl, rfl, by simp, fun j u hj => by rw [(Blk.new W t cs.toArray).cell]; simpa using hj⟩
end

set_option maxHeartbeats 1000000 in
theorem queue_lives (w : World) : Calls Try.prog 21 #[] w fun e w' => e = .returned (.bool true) ∧ Below w.heap.size w w' := by
  go_enter Try.func21, Try.ntmps21
  go_wp2_with fail
  refine (q_new_ok 3 w (by omega)).mono ?_
  rintro e W ⟨rfl, hq, hb⟩
  have h0 : QL w W (· = w.heap.size) w.heap.size [] 3 := ⟨hq, fun k hk => by omega, hb⟩
  clear hq hb
  generalize w.heap.size = qb at h0 ⊢
  generalize (fun x => x = qb) = F at h0
  go_wp2_with fail
  refine (q_put (h0.alloc _).qs (· = W.heap.size) _ _ [1, 2] (by exact reads_new W [.int .u8 1, .int .u8 2] 5) (fun k hk hf => by have := h0.qs.2 k hf; omega)).mono ?_
  rintro e W1 ⟨he, F1, hF1, hq1, ho1⟩
  obtain rfl : e = .returned (.bool true) := he
  have h1 : QL w W1 F1 qb [1, 2] 3 := (h0.alloc _).put hF1 hq1 ho1
  clear h0 hF1 hq1 ho1
  go_wp2_with fail
  refine (q_put (h1.alloc _).qs (· = W1.heap.size) _ _ [3, 4] (by exact reads_new W1 [.int .u8 3, .int .u8 4] 5) (fun k hk hf => by have := h1.qs.2 k hf; omega)).mono ?_
  rintro e W2 ⟨he, F2, hF2, hq2, ho2⟩
  obtain rfl : e = .returned (.bool false) := he
  have h2 : QL w W2 F2 qb [1, 2] 3 := (h1.alloc _).put hF2 hq2 ho2
  clear h1 hF2 hq2 ho2
  go_wp2_with fail
  refine (q_take h2.qs 1).mono ?_
  rintro e W3 ⟨v3, rfl, hv3, hq3, ho3⟩
  have h3 : QL w W3 F2 qb [2] 3 := h2.same hq3 ho3
  have c3 : OV W3 F2 5 v3 1 ([1].map vb) := OV.make hv3 (fun k hk => h2.qs.2 k hk)
  clear h2 hv3 hq3 ho3
  go_wp2_with fail
  refine (qs_len h3.qs).mono ?_
  rintro e W3' ⟨he, rfl⟩
  obtain rfl : e = .returned (.int .i64 1) := he
  go_wp2_with fail
  refine (qs_room h3.qs).mono ?_
  rintro e W4 ⟨he, k4, rfl⟩
  obtain rfl : e = .returned (.int .i64 2) := he
  have h4 := h3.drewN k4
  have c4 := c3.drewN k4
  clear h3 c3
  generalize W3.drewN k4 = W4 at h4 c4 ⊢
  go_wp2_with fail
  refine (q_put (h4.alloc _).qs (· = W4.heap.size) _ _ [5, 6] (by exact reads_new W4 [.int .u8 5, .int .u8 6] 5) (fun k hk hf => by have := h4.qs.2 k hf; omega)).mono ?_
  rintro e W5 ⟨he, F5, hF5, hq5, ho5⟩
  obtain rfl : e = .returned (.bool true) := he
  have h5 : QL w W5 F5 qb [2, 5, 6] 3 := (h4.alloc _).put hF5 hq5 ho5
  have c5 : OV W5 F5 5 v3 1 ([1].map vb) := (c4.below ((Below.refl _ _).alloc (Nat.le_refl _) _)).only ho5 hF5
  clear h4 c4 hF5 hq5 ho5
  go_wp2_with fail
  refine (qs_all h5.qs).mono ?_
  rintro e W6 ⟨v6, rfl, hv6, hb6⟩
  have h6 := h5.below hb6
  have c6 := c5.below hb6
  have a6 : OV W6 F5 5 v6 3 ([2, 5, 6].map vb) := OV.make hv6 (fun k hk => h5.qs.2 k hk)
  clear h5 c5 hv6 hb6
  go_wp2_with fail
  refine (q_clear h6.qs).mono ?_
  rintro e W7 ⟨he, hq7, ho7⟩
  obtain rfl : e = .returned (.int .i64 3) := he
  have h7 := h6.same hq7 ho7
  have c7 := c6.only ho7 (F' := F5) (fun _ hk => .inl hk)
  have a7 := a6.only ho7 (F' := F5) (fun _ hk => .inl hk)
  clear h6 c6 a6 hq7 ho7
  go_wp2_with fail
  refine (q_new_bad (-1) _ (by omega)).mono ?_
  rintro e W8 ⟨rfl, rfl⟩
  obtain ⟨A3, c3, rfl⟩ := own_len c7.own
  obtain ⟨A6, c6, rfl⟩ := own_len a7.own
  have s3 := c7.str (l := [1]) 54 9 Try.underlying54 Try.underlying5 Try.underlying9
  have s6 := a7.str (l := [2, 5, 6]) 54 9 Try.underlying54 Try.underlying5 Try.underlying9
  simp only [List.length_cons, List.length_nil] at s3 s6
  have t3 := str_toList [1]
  have t6 := str_toList [2, 5, 6]
  go_wp2_with fail
  refine (qs_len h7.qs).mono ?_
  rintro e W8 ⟨he, rfl⟩
  obtain rfl : e = .returned (.int .i64 0) := he
  go_wp2_with fail
  go_ret
  exact ⟨rfl, h7.bel⟩
end Go.Proofs.Ytifiabhoeagblaa
