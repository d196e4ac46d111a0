/-
  What routers say of themselves: what is put is got; what is got may be; a beginning says nothing; what counts for nothing changes nothing. No program in sight. No condition.
-/
import Derived.Test.YtbmbpcibihddaaaDoorOpM
import Derived.Test.YtbmbpcibihddaaaDoorOpD
namespace Go.Proofs.YtbmbpcibihddaaaDoor

theorem take_left {α : Type} (a b : List α) (n : Nat) (h : a.length = n) : (a ++ b).take n = a := by subst h; simp
theorem drop_left {α : Type} (a b : List α) (n : Nat) (h : a.length = n) : (a ++ b).drop n = b := by subst h; simp
theorem u8_nat (n : Nat) (h : n < 256) : (UInt8.ofNat n).toNat = n := by rw [UInt8.toNat_ofNat', Nat.mod_eq_of_lt (by omega)]
/-- one code and data at the head, taken -/
theorem eachL_cons (step : OV → Int → List UInt8 → Said) (o : OV) (c : UInt8) (d r : List UInt8) (hd : d.length < 256) {o' : OV} (hs : step o c.toNat d = .inr o') :
    eachL step o (c :: UInt8.ofNat d.length :: (d ++ r)) = eachL step o' r := by
  have hk := u8_nat d.length hd
  have ht : (d ++ r).take (UInt8.ofNat d.length).toNat = d := take_left _ _ _ hk.symm
  have h := eachL_yes step o c (UInt8.ofNat d.length) (d ++ r) (by rw [hk]; simp) (o' := o') (by rw [ht]; exact hs)
  rw [h, drop_left _ _ _ hk.symm]
theorem eachL_cap (o : OV) (c : UInt8) (d r : List UInt8) (hd : d.length < 256) {o' : OV} (hs : capStep o c.toNat d = some o') : eachL capS o (capL c d ++ r) = eachL capS o' r :=
  eachL_cons capS o c d r hd (by unfold capS; rw [hs])
theorem ofBe_be_lt (k n : Nat) (h : n < 256 ^ k) : ofBe (be k n) = n := by rw [ofBe_be, Nat.mod_eq_of_lt h]
theorem pathsL_one (p : Nat) (h1 : 1 ≤ p) (h3 : p ≤ 3) (q : Int) : pathsL [0, 1, 1, UInt8.ofNat p] q = p := by
  have hp : p = 1 ∨ p = 2 ∨ p = 3 := by omega
  rcases hp with rfl | rfl | rfl <;> rfl
theorem OV.caps_get (o : OV) (hok : o.ok = true) : eachL capS ⟨o.as2, o.hold, o.id, false, 0⟩ o.caps = .inr o := by
  obtain ⟨g1, g2, gf, g3, g4, -, -, -, g5, g6⟩ := OV.ok_iff hok
  obtain ⟨asn, hold, id, four, paths⟩ := o
  simp only at g1 g2 gf g3 g4 g5 g6
  obtain ⟨n, rfl⟩ : ∃ n : Nat, asn = (n : Int) := ⟨asn.toNat, by omega⟩
  obtain ⟨p, rfl⟩ : ∃ p : Nat, paths = (p : Int) := ⟨paths.toNat, by omega⟩
  have h0 : ∀ (a : Int) (r : List UInt8), eachL capS ⟨a, hold, id, false, 0⟩ (capL 1 [0, 1, 0, 1] ++ r) = eachL capS ⟨a, hold, id, false, 0⟩ r := fun a r => eachL_cap _ 1 _ r (by simp) rfl
  have h4 : ∀ (a : Int) (r : List UInt8), eachL capS ⟨a, hold, id, false, 0⟩ (capL 65 (be 4 n) ++ r) = eachL capS ⟨n, hold, id, true, 0⟩ r := fun a r => eachL_cap _ 65 _ r (by simp [be_length]) (by
    have hl : (be 4 n).length = 4 := be_length 4 n
    show capStep _ 65 _ = _
    unfold capStep
    rw [if_pos rfl, if_pos hl, ofBe_be_lt 4 n (by omega)])
  have hp : ∀ (a : Int) (f : Bool), 0 < (p : Int) → eachL capS ⟨a, hold, id, f, 0⟩ (capL 69 [0, 1, 1, UInt8.ofNat p]) = .inr ⟨a, hold, id, f, p⟩ := fun a f hp => by
    have h := eachL_cap ⟨a, hold, id, f, 0⟩ 69 [0, 1, 1, UInt8.ofNat p] [] (by simp) (o' := ⟨a, hold, id, f, p⟩) (by
      show capStep _ 69 _ = _
      unfold capStep
      rw [if_neg (by decide), if_pos rfl, if_pos (by simp), pathsL_one p (by omega) (by omega)]
      rfl)
    rw [List.append_nil] at h
    rw [h]
    rfl
  unfold OV.caps
  simp only [Int.toNat_natCast, List.append_assoc]
  rw [h0]
  cases four with
  | true =>
    rw [if_pos rfl, h4]
    by_cases hpp : 0 < (p : Int)
    · rw [if_pos hpp]; exact hp _ _ hpp
    · rw [if_neg hpp, show p = 0 by omega]; rfl
  | false =>
    have ha : OV.as2 ⟨n, hold, id, false, p⟩ = n := by
      have := gf rfl
      unfold OV.as2
      rw [if_neg (by simp only; omega)]
      simp
    rw [if_neg (by simp), List.nil_append, ha]
    by_cases hpp : 0 < (p : Int)
    · rw [if_pos hpp]; exact hp _ _ hpp
    · rw [if_neg hpp, show p = 0 by omega]; rfl
theorem OV.as2_lt {o : OV} (hok : o.ok = true) : o.as2 < 65536 := by
  obtain ⟨g1, g2, -⟩ := OV.ok_iff hok
  unfold OV.as2
  split <;> omega
theorem OV.fault_ok {o : OV} (hok : o.ok = true) : o.fault = -1 := by
  obtain ⟨g1, g2, -, g3, g4, g5, g6, g7, -, -⟩ := OV.ok_iff hok
  unfold OV.fault
  rw [if_neg (by omega), if_neg (by omega), if_neg g7]
/-- the body: the fixed part, the parameter -/
theorem OV.put_parts (o : OV) (r : List UInt8) (k : UInt8) (b : List UInt8) (hb : b = 4 :: (be 2 o.as2 ++ (be 2 o.hold.toNat ++ (be 4 o.id ++ (k :: r))))) :
    b.head? = some 4 ∧ (b.drop 1).take 2 = be 2 o.as2 ∧ (b.drop 3).take 2 = be 2 o.hold.toNat ∧ (b.drop 5).take 4 = be 4 o.id ∧ b.getD 9 0 = k ∧ b.drop 10 = r ∧ b.length = r.length + 10 := by
  have e1 : b.drop 1 = be 2 o.as2 ++ (be 2 o.hold.toNat ++ (be 4 o.id ++ (k :: r))) := by rw [hb]; rfl
  have e3 : b.drop 3 = be 2 o.hold.toNat ++ (be 4 o.id ++ (k :: r)) := by
    have : b.drop 3 = (b.drop 1).drop 2 := by rw [List.drop_drop]
    rw [this, e1, drop_left _ _ _ (be_length 2 _)]
  have e5 : b.drop 5 = be 4 o.id ++ (k :: r) := by
    have : b.drop 5 = (b.drop 3).drop 2 := by rw [List.drop_drop]
    rw [this, e3, drop_left _ _ _ (be_length 2 _)]
  have e9 : b.drop 9 = k :: r := by
    have : b.drop 9 = (b.drop 5).drop 4 := by rw [List.drop_drop]
    rw [this, e5, drop_left _ _ _ (be_length 4 _)]
  have e10 : b.drop 10 = r := by
    have : b.drop 10 = (b.drop 9).drop 1 := by rw [List.drop_drop]
    rw [this, e9]; rfl
  refine ⟨by rw [hb]; rfl, by rw [e1]; exact take_left _ _ _ (be_length 2 _), by rw [e3]; exact take_left _ _ _ (be_length 2 _), by rw [e5]; exact take_left _ _ _ (be_length 4 _), ?_, e10, ?_⟩
  · have : (b.drop 9)[0]? = some k := by rw [e9]; rfl
    rw [List.getElem?_drop] at this
    rw [List.getD_eq_getElem?_getD, this]
    rfl
  · rw [hb]
    simp [be_length]
    omega
theorem OV.put_parts' (o : OV) : o.put = 4 :: (be 2 o.as2 ++ (be 2 o.hold.toNat ++ (be 4 o.id ++ (UInt8.ofNat (capL 2 o.caps).length :: capL 2 o.caps)))) := rfl
theorem OV.put_length (o : OV) : o.put.length = o.caps.length + 12 := by
  have h := (OV.put_parts o (capL 2 o.caps) _ o.put rfl).2.2.2.2.2.2
  rw [h, capL_length]
/-- a body with the router's own parameter, and whatever may stand behind it -/
theorem openL_put (o : OV) (hok : o.ok = true) (hi : o.id < 4294967296) (r b : List UInt8) (hl : (capL 2 o.caps ++ r).length < 256) (hr : eachL parS o r = .inr o)
    (hb : b = 4 :: (be 2 o.as2 ++ (be 2 o.hold.toNat ++ (be 4 o.id ++ (UInt8.ofNat (capL 2 o.caps ++ r).length :: (capL 2 o.caps ++ r)))))) : openL b = .inr o := by
  obtain ⟨h1, h2, h3, h4, h5, h6, h7⟩ := OV.put_parts o (capL 2 o.caps ++ r) _ b hb
  obtain ⟨g1, g2, -, g3, g4, -, -, -, -, -⟩ := OV.ok_iff hok
  have hc := o.caps_length
  unfold openL
  rw [if_pos h1, if_pos ⟨by omega, by rw [h5, h7, u8_nat _ hl]; omega⟩, h2, h3, h4, h6, ofBe_be_lt 2 _ (OV.as2_lt hok), ofBe_be_lt 2 _ (by omega), ofBe_be_lt 4 _ (by omega)]
  have hh : ((o.hold.toNat : Nat) : Int) = o.hold := by omega
  rw [hh]
  have hp : eachL parS ⟨o.as2, o.hold, o.id, false, 0⟩ (capL 2 o.caps ++ r) = eachL parS o r := eachL_cons parS _ 2 o.caps r (by omega) (by
    show parS _ 2 _ = _
    unfold parS
    rw [if_pos rfl]
    exact OV.caps_get o hok)
  rw [hp, hr]
  show (if 0 ≤ o.fault then (Sum.inl o.fault : Said) else Sum.inr o) = _
  rw [OV.fault_ok hok]
  rfl
/-- what is put is got -/
theorem put_get (o : OV) (hok : o.ok = true) (hi : o.id < 4294967296) : openL o.put = .inr o := by
  have hc := o.caps_length
  refine openL_put o hok hi [] o.put (by simp [capL_length]; omega) rfl ?_
  rw [List.append_nil]
  rfl
/-- a beginning says nothing -/
theorem put_short (o : OV) (n : Nat) (hn : n < o.put.length) : ∃ s, openL (o.put.take n) = .inl s := by
  have hc := o.caps_length
  obtain ⟨h1, -, -, -, h5, h6, h7⟩ := OV.put_parts o (capL 2 o.caps) _ o.put rfl
  unfold openL
  by_cases h4 : (o.put.take n).head? = some 4
  · rw [if_pos h4, if_neg]
    · exact ⟨_, rfl⟩
    · rintro ⟨h10, hb⟩
      have hl : (o.put.take n).length = n := by rw [List.length_take]; omega
      have h9 : (o.put.take n).getD 9 0 = o.put.getD 9 0 := by
        rw [List.getD_eq_getElem?_getD, List.getD_eq_getElem?_getD, List.getElem?_take, if_pos (by omega)]
      rw [h9, hl, h5, u8_nat _ (by rw [capL_length]; omega), capL_length] at hb
      rw [h7, capL_length] at hn
      omega
  · rw [if_neg h4]
    exact ⟨_, rfl⟩
/-- capabilities that count for nothing -/
theorem put_more (o : OV) (hok : o.ok = true) (hi : o.id < 4294967296) (code : Nat) (hcode : code < 256) (h65 : code ≠ 65) (h69 : code ≠ 69) (d : List UInt8) (hd : d.length ≤ 200) (b : List UInt8)
    (hb : b = 4 :: (be 2 o.as2 ++ (be 2 o.hold.toNat ++ (be 4 o.id ++ (UInt8.ofNat (capL 2 o.caps ++ (2 :: UInt8.ofNat (d.length + 2) :: (UInt8.ofNat code :: UInt8.ofNat d.length :: d))).length :: (capL 2 o.caps ++ (2 :: UInt8.ofNat (d.length + 2) :: (UInt8.ofNat code :: UInt8.ofNat d.length :: d)))))))) : openL b = .inr o := by
  have hc := o.caps_length
  refine openL_put o hok hi _ b (by simp [capL_length]; omega) ?_ hb
  have h1 : eachL capS o (UInt8.ofNat code :: UInt8.ofNat d.length :: d) = .inr o := by
    have h := eachL_cap o (UInt8.ofNat code) d [] (by omega) (o' := o) (by
      rw [u8_nat code hcode]
      unfold capStep
      rw [if_neg (by omega), if_neg (by omega)])
    rw [List.append_nil] at h
    rw [show UInt8.ofNat code :: UInt8.ofNat d.length :: d = capL (UInt8.ofNat code) d from rfl, h]
    rfl
  have h2 := eachL_cons parS o 2 (UInt8.ofNat code :: UInt8.ofNat d.length :: d) [] (by simp; omega) (o' := o) (by
    show parS _ 2 _ = _
    unfold parS
    rw [if_pos rfl]
    exact h1)
  rw [List.append_nil] at h2
  exact h2
/-! ### what is got may be -/
structure OV.fine (o : OV) : Prop where
  a0 : 0 ≤ o.asn
  a1 : o.asn < 4294967296
  af : o.four = false → o.asn ≤ 65535
  h0 : 0 ≤ o.hold ∧ o.hold ≤ 65535
  id : o.id < 4294967296
  p0 : 0 ≤ o.paths ∧ o.paths ≤ 3
theorem pathsN_fine (l : List UInt8) : ∀ (ks : List Nat) (p : Int), 0 ≤ p ∧ p ≤ 3 → 0 ≤ pathsN l p ks ∧ pathsN l p ks ≤ 3
  | [], _, h => h
  | k :: ks, p, h => by
    refine pathsN_fine l ks (stepP l k p) ?_
    unfold stepP
    split
    · rename_i hc
      simp only [Bool.and_eq_true, decide_eq_true_eq] at hc
      omega
    · exact h
theorem fine_cap {o o' : OV} (h : o.fine) (c : Int) (d : List UInt8) (hs : capS o c d = .inr o') : o'.fine := by
  unfold capS at hs
  cases hc : capStep o c d with
  | none => rw [hc] at hs; cases hs
  | some x =>
    rw [hc] at hs
    cases hs
    unfold capStep at hc
    split at hc
    · split at hc
      · rename_i h4
        cases hc
        have hb := ofBe_lt d
        rw [h4] at hb
        exact ⟨by simp only; omega, by simp only; omega, fun e => (by cases e), h.h0, h.id, h.p0⟩
      · cases hc
    · split at hc
      · split at hc
        · cases hc
          exact ⟨h.a0, h.a1, h.af, h.h0, h.id, pathsN_fine d _ _ h.p0⟩
        · cases hc
      · cases hc
        exact h
theorem fine_each {step : OV → Int → List UInt8 → Said} (hs : ∀ o o' c d, OV.fine o → step o c d = .inr o' → OV.fine o') : ∀ (n : Nat) (o : OV) (l : List UInt8) (o' : OV), o.fine → eachN step n o l = .inr o' → o'.fine
  | _, o, [], o', h, e => by
    have : o = o' := by
      unfold eachN at e
      cases e
      rfl
    exact this ▸ h
  | 0, _, _ :: _, _, _, e => by unfold eachN at e; cases e
  | _ + 1, _, [_], _, _, e => by unfold eachN at e; cases e
  | n + 1, o, c :: k :: r, o', h, e => by
    unfold eachN at e
    split at e
    · split at e
      · cases e
      · rename_i x hx
        exact fine_each hs n x _ o' (hs _ _ _ _ h hx) e
    · cases e
theorem fine_par {o o' : OV} (h : o.fine) (c : Int) (d : List UInt8) (hs : parS o c d = .inr o') : o'.fine := by
  unfold parS at hs
  split at hs
  · exact fine_each (fun _ _ _ _ h e => fine_cap h _ _ e) _ _ _ _ h hs
  · cases hs
theorem got_ok {b : List UInt8} {o : OV} (h : openL b = .inr o) : o.ok = true ∧ o.id < 4294967296 := by
  unfold openL at h
  split at h
  · split at h
    · rename_i hb
      have h2 : ∀ k, ((b.drop k).take 2).length ≤ 2 := fun k => by simp; omega
      have hl2 : ∀ k, ofBe ((b.drop k).take 2) < 65536 := fun k => by
        have h1 := ofBe_lt ((b.drop k).take 2)
        have h3 : 256 ^ ((b.drop k).take 2).length ≤ 256 ^ 2 := Nat.pow_le_pow_right (by decide) (h2 k)
        omega
      have hl4 : ofBe ((b.drop 5).take 4) < 4294967296 := by
        have h1 := ofBe_lt ((b.drop 5).take 4)
        have h3 : 256 ^ ((b.drop 5).take 4).length ≤ 256 ^ 4 := Nat.pow_le_pow_right (by decide) (by simp; omega)
        omega
      have hf0 : OV.fine ⟨ofBe ((b.drop 1).take 2), ofBe ((b.drop 3).take 2), ofBe ((b.drop 5).take 4), false, 0⟩ := by
        have a := hl2 1
        have c := hl2 3
        exact ⟨by simp only; omega, by simp only; omega, fun _ => by simp only; omega, ⟨by simp only; omega, by simp only; omega⟩, hl4, ⟨by simp, by simp⟩⟩
      split at h
      · cases h
      · rename_i x hx
        have hf := fine_each (fun _ _ _ _ h e => fine_par h _ _ e) _ _ _ _ hf0 hx
        split at h
        · cases h
        · rename_i hff
          cases h
          refine ⟨?_, hf.id⟩
          obtain ⟨f1, f2, f3, f4, f5, f6⟩ := hf
          obtain ⟨asn, hold, id, four, paths⟩ := o
          unfold OV.fault at hff
          simp only at *
          split at hff
          · simp at hff
          · split at hff
            · simp at hff
            · split at hff
              · simp at hff
              · cases four <;> simp [OV.ok, OV.widest, withinB] at * <;> omega
    · cases h
  · cases h
end Go.Proofs.YtbmbpcibihddaaaDoor
