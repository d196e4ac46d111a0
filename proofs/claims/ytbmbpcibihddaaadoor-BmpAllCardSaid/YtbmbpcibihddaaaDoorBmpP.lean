/-
  What is monitored, as data: what may be, its bytes, what bytes are read as. No program in sight. No condition.
-/
import Derived.Test.YtbmbpcibihddaaaDoorFrameC
import Derived.Test.YtbmbpcibihddaaaDoorNumNum
namespace Go.Proofs.YtbmbpcibihddaaaDoor

/-- what is monitored -/
structure MD where
  kind : Int
  id : Nat
  addr : Nat
  asn : Int
  time : Int
  reason : Int
  own : Nat
  sent : List UInt8
  came : List UInt8
  text : List UInt8
  deriving DecidableEq

/-- is it one message of a type? -/
def wholeB (l : List UInt8) (kind : Int) : Bool := decide ((headR l).code = 0) && decide ((headR l).k = kind) && decide ((headR l).k ≠ 0) && decide ((headR l).n = l.length)
def talksB (k : Int) : Bool := decide (k = 4) || decide (k = 5)
def notedB (r : Int) : Bool := decide (r = 1) || decide (r = 3)
def fits4 (n : Int) : Bool := decide (0 ≤ n) && decide (n ≤ 4294967295)
/-- with nothing but what its kind uses -/
def MD.used (m : MD) : MD :=
  if talksB m.kind then ⟨m.kind, 0, 0, 0, 0, 0, 0, [], [], m.text⟩
  else ⟨m.kind, m.id, m.addr, m.asn, m.time, if m.kind = 2 then m.reason else 0, if m.kind = 3 then m.own else 0, if m.kind = 3 then m.sent else [], if m.kind ≠ 2 ∨ notedB m.reason = true then m.came else [], []⟩
def MD.rused (m : MD) : MD :=
  if talksB m.kind then ⟨m.kind, 0, 0, 0, 0, 0, 0, [], [], m.text⟩
  else if m.kind = 0 then ⟨m.kind, m.id, m.addr, m.asn, m.time, 0, 0, [], m.came, []⟩
  else if m.kind = 2 then ⟨m.kind, m.id, m.addr, m.asn, m.time, m.reason, 0, [], if notedB m.reason then m.came else [], []⟩
  else if m.kind = 3 then ⟨m.kind, m.id, m.addr, m.asn, m.time, 0, m.own, m.sent, m.came, []⟩
  else ⟨m.kind, m.id, m.addr, m.asn, m.time, 0, 0, [], [], []⟩
def MD.msgs (m : MD) : Bool :=
  if m.kind = 0 then wholeB m.came 2
  else if m.kind = 2 then decide (1 ≤ m.reason) && decide (m.reason ≤ 4) && (!notedB m.reason || wholeB m.came 3)
  else if m.kind = 3 then wholeB m.sent 1 && wholeB m.came 1
  else if talksB m.kind then decide (m.text.length ≤ 255) else false
def MD.rmsgs (m : MD) : Bool :=
  if m.kind = 0 then wholeB m.came 2
  else if m.kind = 2 then (notedB m.reason && wholeB m.came 3) || decide (m.reason = 2) || decide (m.reason = 4)
  else if m.kind = 3 then wholeB m.sent 1 && wholeB m.came 1
  else if talksB m.kind then decide (m.text.length ≤ 255) else false
/-- may it be? -/
def MD.ok (m : MD) : Bool := decide (m = m.used) && fits4 m.asn && fits4 m.time && m.msgs
def MD.rok (m : MD) : Bool := decide (m = m.rused) && fits4 m.asn && fits4 m.time && m.rmsgs
def MD.err (m : MD) : Int := if m.ok then 0 else 360
/-- are its words words? -/
def MD.u32 (m : MD) : Prop := m.id < 4294967296 ∧ m.addr < 4294967296 ∧ m.own < 4294967296

theorem MD.rok_eq (m : MD) : m.rok = m.ok := by
  obtain ⟨kind, id, addr, asn, time, reason, own, sent, came, text⟩ := m
  unfold MD.rok MD.ok
  have hm : MD.rmsgs ⟨kind, id, addr, asn, time, reason, own, sent, came, text⟩ = MD.msgs ⟨kind, id, addr, asn, time, reason, own, sent, came, text⟩ := by
    unfold MD.rmsgs MD.msgs
    by_cases h0 : kind = 0
    · simp [h0]
    by_cases h2 : kind = 2
    · subst h2
      dsimp only
      rw [if_neg h0, if_neg h0, if_pos rfl, if_pos rfl]
      by_cases h1 : reason = 1
      · subst h1; simp [notedB]
      by_cases h3 : reason = 3
      · subst h3; simp [notedB]
      have hn : notedB reason = false := by simp [notedB, h1, h3]
      rw [hn, Bool.eq_iff_iff]
      simp
      omega
    · simp only [h0, h2, if_false]
  rw [hm]
  by_cases hk : MD.msgs ⟨kind, id, addr, asn, time, reason, own, sent, came, text⟩ = true
  · have hu : MD.rused ⟨kind, id, addr, asn, time, reason, own, sent, came, text⟩ = MD.used ⟨kind, id, addr, asn, time, reason, own, sent, came, text⟩ := by
      unfold MD.rused MD.used
      by_cases ht : talksB kind = true
      · simp [ht]
      · by_cases h0 : kind = 0
        · subst h0; simp [talksB]
        by_cases h2 : kind = 2
        · subst h2; simp [talksB]
        by_cases h3 : kind = 3
        · subst h3; simp [talksB]
        · simp [MD.msgs, h0, h2, h3, ht] at hk
    rw [hu]
  · simp [hk]

/-- the part of a kind -/
def MD.mid (m : MD) : List UInt8 := if m.kind = 2 then be 1 m.reason.toNat else if m.kind = 3 then List.replicate 12 0 ++ (be 4 m.own ++ (be 4 11731123 ++ m.sent)) else []
/-- behind the head -/
def MD.body (m : MD) : List UInt8 :=
  if talksB m.kind then be 4 m.text.length ++ m.text
  else List.replicate 22 0 ++ (be 4 m.addr ++ (be 4 m.asn.toNat ++ (be 4 m.id ++ (be 4 m.time.toNat ++ (List.replicate 4 0 ++ (m.mid ++ m.came))))))
/-- the bytes -/
def MD.put (m : MD) : List UInt8 := 3 :: (be 4 (6 + m.body.length) ++ (be 1 m.kind.toNat ++ m.body))

/-- bytes that are left, and whether less was left than was asked for -/
structure RS where
  bs : List UInt8
  bad : Bool
def rdB (n : Int) (s : RS) : List UInt8 := if rdOk n s.bs s.bad then s.bs.take n.toNat else []
def rdS (n : Int) (s : RS) : RS := if rdOk n s.bs s.bad then ⟨s.bs.drop n.toNat, false⟩ else ⟨s.bs, true⟩
def rdL (s : RS) : Nat := leftN s.bs s.bad
/-- one message, as the program reads it -/
def oneB (s : RS) : List UInt8 := if (rdB 19 s).length < 19 then [] else rdB 19 s ++ rdB ((ofBe (((rdB 19 s).drop 16).take 2) : Nat) - 19 : Int) (rdS 19 s)
def oneS (s : RS) : RS := if (rdB 19 s).length < 19 then rdS 19 s else rdS ((ofBe (((rdB 19 s).drop 16).take 2) : Nat) - 19 : Int) (rdS 19 s)
/-- and as the document does -/
def rOneB (s : RS) : List UInt8 := if 19 ≤ rdL s then rdB (ofBe ((s.bs.drop 16).take 2) : Nat) s else []
def rOneS (s : RS) : RS := if 19 ≤ rdL s then rdS (ofBe ((s.bs.drop 16).take 2) : Nat) s else s
/-- a peer's part, read in one row -/
def readP (kind : Int) (one : RS → List UInt8) (oneS : RS → RS) (s0 : RS) : MD :=
  let s1 := rdS 22 s0
  let s2 := rdS 4 s1
  let s3 := rdS 4 s2
  let s4 := rdS 4 s3
  let s5 := rdS 4 (rdS 4 s4)
  let sr := if kind = 2 then rdS 1 s5 else if kind = 3 then oneS (rdS 4 (rdS 4 (rdS 12 s5))) else s5
  ⟨kind, ofBe (rdB 4 s3), ofBe (rdB 4 s1), ofBe (rdB 4 s2), ofBe (rdB 4 s4), if kind = 2 then ofBe (rdB 1 s5) else 0, if kind = 3 then ofBe (rdB 4 (rdS 12 s5)) else 0, if kind = 3 then one (rdS 4 (rdS 4 (rdS 12 s5))) else [], rdB (rdL sr) sr, []⟩
def readT (kind : Int) (n : Nat) (s : RS) : MD := ⟨kind, 0, 0, 0, 0, 0, 0, [], [], rdB n s⟩
def read1 (kind : Int) (b : List UInt8) : MD := if talksB kind then readT kind (ofBe (rdB 4 ⟨b, false⟩)) (rdS 4 ⟨b, false⟩) else readP kind oneB oneS ⟨b, false⟩
def read2 (kind : Int) (b : List UInt8) : MD := if talksB kind then readT kind (ofBe (rdB 2 (rdS 2 ⟨b, false⟩))) (rdS 2 (rdS 2 ⟨b, false⟩)) else readP kind rOneB rOneS ⟨b, false⟩

theorem rdB_app (x y : List UInt8) (n : Int) (h : n = x.length) : rdB n ⟨x ++ y, false⟩ = x := by
  subst h
  have h0 : rdOk (x.length : Int) (x ++ y) false = true := by simp [rdOk]; omega
  unfold rdB
  rw [if_pos h0]
  simp
theorem rdS_app (x y : List UInt8) (n : Int) (h : n = x.length) : rdS n ⟨x ++ y, false⟩ = ⟨y, false⟩ := by
  subst h
  have h0 : rdOk (x.length : Int) (x ++ y) false = true := by simp [rdOk]; omega
  unfold rdS
  rw [if_pos h0]
  simp
theorem rdB_all (y : List UInt8) : rdB (rdL ⟨y, false⟩) ⟨y, false⟩ = y := by
  have := rdB_app y [] (rdL ⟨y, false⟩) (by simp [rdL, leftN])
  simpa using this
theorem ofBe_lt4 (s : RS) : ofBe (rdB 4 s) < 4294967296 := by
  have h := ofBe_lt (rdB 4 s)
  have hl : (rdB 4 s).length ≤ 4 := by unfold rdB; split <;> simp; omega
  have : (256 : Nat) ^ (rdB 4 s).length ≤ 256 ^ 4 := Nat.pow_le_pow_right (by decide) hl
  omega
theorem read1_u32 (k : Int) (b : List UInt8) : (read1 k b).u32 := by
  unfold read1 readT readP MD.u32
  split
  · simp
  · refine ⟨ofBe_lt4 _, ofBe_lt4 _, ?_⟩
    dsimp only
    split
    · exact ofBe_lt4 _
    · decide
theorem read2_u32 (k : Int) (b : List UInt8) : (read2 k b).u32 := by
  unfold read2 readT readP MD.u32
  split
  · simp
  · refine ⟨ofBe_lt4 _, ofBe_lt4 _, ?_⟩
    dsimp only
    split
    · exact ofBe_lt4 _
    · decide
theorem read1_kind (k : Int) (b : List UInt8) : (read1 k b).kind = k := by unfold read1 readT readP; split <;> rfl
theorem read2_kind (k : Int) (b : List UInt8) : (read2 k b).kind = k := by unfold read2 readT readP; split <;> rfl

theorem whole_len {l : List UInt8} {k : Int} (h : wholeB l k = true) : 19 ≤ l.length ∧ l.length ≤ 4096 ∧ ofBe ((l.drop 16).take 2) = l.length := by
  simp only [wholeB, Bool.and_eq_true, decide_eq_true_eq] at h
  obtain ⟨⟨⟨h1, h2⟩, h3⟩, h4⟩ := h
  unfold headR at h1 h3 h4
  by_cases hs : l.length < 19
  · rw [if_pos hs] at h3; simp at h3
  rw [if_neg hs] at h1 h3 h4
  unfold headOf at h1 h3 h4
  split at h1
  · simp at h1
  rename_i hm
  rw [if_neg hm] at h3 h4
  split at h1
  · rename_i hk
    rw [if_pos hk] at h3 h4
    split at h1
    · rename_i hf
      rw [if_pos hf] at h3 h4
      dsimp only at h4
      have e : (l.drop 16).take 2 = [l.getD 16 0, l.getD 17 0] := by
        rw [List.drop_eq_getElem_cons (by omega), List.drop_eq_getElem_cons (by omega)]
        rw [getD_of (l := l) (i := 16) (by omega), getD_of (l := l) (i := 17) (by omega)]
        rfl
      rw [e]
      simp only [fitsF, Bool.and_eq_true, decide_eq_true_eq] at hf
      omega
    · simp at h1
  · simp at h1

/-- what may be, by its kinds -/
theorem MD.ok_parts {m : MD} (h : m.ok = true) : m = m.used ∧ 0 ≤ m.asn ∧ m.asn ≤ 4294967295 ∧ 0 ≤ m.time ∧ m.time ≤ 4294967295 ∧ m.msgs = true := by
  simp only [MD.ok, fits4, Bool.and_eq_true, decide_eq_true_eq] at h
  obtain ⟨⟨⟨h1, h2, h3⟩, h4, h5⟩, h6⟩ := h
  exact ⟨h1, h2, h3, h4, h5, h6⟩

theorem oneB_app {l y : List UInt8} {k : Int} (h : wholeB l k = true) : oneB ⟨l ++ y, false⟩ = l ∧ oneS ⟨l ++ y, false⟩ = ⟨y, false⟩ := by
  obtain ⟨h1, h2, h3⟩ := whole_len h
  have hs : l ++ y = l.take 19 ++ (l.drop 19 ++ y) := by rw [← List.append_assoc, List.take_append_drop]
  have hb : rdB 19 ⟨l ++ y, false⟩ = l.take 19 := by rw [hs]; exact rdB_app _ _ _ (by simp; omega)
  have hr : rdS 19 ⟨l ++ y, false⟩ = ⟨l.drop 19 ++ y, false⟩ := by rw [hs]; exact rdS_app _ _ _ (by simp; omega)
  have hn : ofBe (((l.take 19).drop 16).take 2) = l.length := by
    rw [← h3]
    congr 1
    rw [List.drop_take, List.take_take]
    rfl
  have hl : ¬ (l.take 19).length < 19 := by simp; omega
  unfold oneB oneS
  rw [hb, hr, if_neg hl, if_neg hl, hn]
  constructor
  · rw [rdB_app _ _ _ (by simp; omega), List.take_append_drop]
  · exact rdS_app _ _ _ (by simp; omega)
theorem rOneB_app {l y : List UInt8} {k : Int} (h : wholeB l k = true) : rOneB ⟨l ++ y, false⟩ = l ∧ rOneS ⟨l ++ y, false⟩ = ⟨y, false⟩ := by
  obtain ⟨h1, h2, h3⟩ := whole_len h
  have hl : 19 ≤ rdL ⟨l ++ y, false⟩ := by simp [rdL, leftN]; omega
  have hn : ofBe (((l ++ y).drop 16).take 2) = l.length := by
    rw [← h3]
    congr 1
    rw [List.drop_append_of_le_length (by omega), List.take_append_of_le_length (by simp; omega)]
  unfold rOneB rOneS
  rw [if_pos hl, if_pos hl, hn]
  exact ⟨rdB_app _ _ _ rfl, rdS_app _ _ _ rfl⟩

theorem ofBe4 {n : Nat} (h : n < 4294967296) : ofBe (be 4 n) = n := by rw [ofBe_be]; exact Nat.mod_eq_of_lt (by simpa using h)
theorem ofBe1 {n : Nat} (h : n < 256) : ofBe (be 1 n) = n := by rw [ofBe_be]; exact Nat.mod_eq_of_lt (by simpa using h)

section
variable {one : RS → List UInt8} {oneS : RS → RS} (hone : ∀ (l y : List UInt8) (k : Int), wholeB l k = true → one ⟨l ++ y, false⟩ = l ∧ oneS ⟨l ++ y, false⟩ = ⟨y, false⟩)
include hone
theorem readP_body (m : MD) (h : m.ok = true) (hu : m.u32) (ht : talksB m.kind = false) : readP m.kind one oneS ⟨m.body, false⟩ = m := by
  obtain ⟨hus, ha0, ha1, ht0, ht1, hm⟩ := MD.ok_parts h
  obtain ⟨hi, had, ho⟩ := hu
  clear h
  obtain ⟨kind, id, addr, asn, time, reason, own, sent, came, text⟩ := m
  dsimp only at *
  obtain ⟨a, rfl⟩ : ∃ a : Nat, asn = a := ⟨asn.toNat, by omega⟩
  obtain ⟨t, rfl⟩ : ∃ t : Nat, time = t := ⟨time.toNat, by omega⟩
  have e1 : ∀ y, rdS 22 ⟨List.replicate 22 0 ++ y, false⟩ = ⟨y, false⟩ := fun y => rdS_app _ _ _ (by simp)
  have e2 : ∀ n y, rdS 4 ⟨be 4 n ++ y, false⟩ = ⟨y, false⟩ := fun n y => rdS_app _ _ _ (by simp [be_length])
  have e3 : ∀ n y, rdB 4 ⟨be 4 n ++ y, false⟩ = be 4 n := fun n y => rdB_app _ _ _ (by simp [be_length])
  have e4 : ∀ y, rdS 4 ⟨List.replicate 4 0 ++ y, false⟩ = ⟨y, false⟩ := fun y => rdS_app _ _ _ (by simp)
  have e5 : ∀ y, rdS 12 ⟨List.replicate 12 0 ++ y, false⟩ = ⟨y, false⟩ := fun y => rdS_app _ _ _ (by simp)
  have e6 : ∀ n y, rdS 1 ⟨be 1 n ++ y, false⟩ = ⟨y, false⟩ := fun n y => rdS_app _ _ _ (by simp [be_length])
  have e7 : ∀ n y, rdB 1 ⟨be 1 n ++ y, false⟩ = be 1 n := fun n y => rdB_app _ _ _ (by simp [be_length])
  unfold readP MD.body
  dsimp only
  rw [ht]
  simp only [Bool.false_eq_true, if_false, e1, e2, e3, e4, Int.toNat_natCast, ofBe4 (show a < 4294967296 by omega), ofBe4 hi, ofBe4 had, ofBe4 (show t < 4294967296 by omega)]
  simp only [MD.used, ht, Bool.false_eq_true, if_false, MD.mk.injEq, true_and] at hus
  obtain ⟨u1, u2, u3, u4, u5⟩ := hus
  by_cases h0 : kind = 0
  · subst h0
    simp [MD.mid, rdB_all]
    simp at u1 u2 u3
    exact ⟨u1.symm, u2.symm, u3, u5⟩
  by_cases h2 : kind = 2
  · subst h2
    simp [MD.msgs] at hm
    obtain ⟨r, rfl⟩ : ∃ r : Nat, reason = r := ⟨reason.toNat, by omega⟩
    simp [MD.mid, e6, e7, rdB_all, ofBe1 (show r < 256 by omega)]
    simp at u2 u3
    exact ⟨u2.symm, u3, u5⟩
  by_cases h3 : kind = 3
  · subst h3
    simp [MD.msgs] at hm
    obtain ⟨g1, g2⟩ := hone sent came 1 hm.1
    simp only [Int.reduceEq, if_true, if_false, MD.mid, List.append_assoc, e5, e2, e3, rdB_all, ofBe4 ho, g1, g2]
    simp at u1
    simp
    exact ⟨u1.symm, u5⟩
  · simp [MD.msgs, h0, h2, h3, ht] at hm
end
theorem readT_body (m : MD) (h : m.ok = true) (ht : talksB m.kind = true) : m.text.length ≤ 255 ∧ m = ⟨m.kind, 0, 0, 0, 0, 0, 0, [], [], m.text⟩ := by
  obtain ⟨hus, -, -, -, -, hm⟩ := MD.ok_parts h
  have hk : m.kind = 4 ∨ m.kind = 5 := by simpa [talksB] using ht
  have hm' : m.text.length ≤ 255 := by
    unfold MD.msgs at hm
    rw [if_neg (by omega), if_neg (by omega), if_neg (by omega), if_pos ht] at hm
    simpa using hm
  refine ⟨hm', ?_⟩
  have := hus
  unfold MD.used at this
  rwa [if_pos ht] at this
theorem be4_small {n : Nat} (h : n < 65536) : be 4 n = be 2 0 ++ be 2 n := by
  simp only [be, List.cons_append, List.nil_append]
  rw [show n / 256 ^ 3 = 0 from Nat.div_eq_of_lt (by omega), show n / 256 ^ 2 = 0 from Nat.div_eq_of_lt (by omega)]
theorem read1_body (m : MD) (h : m.ok = true) (hu : m.u32) : read1 m.kind m.body = m := by
  cases ht : talksB m.kind with
  | false => unfold read1; rw [ht]; exact readP_body (fun _ _ _ => oneB_app) m h hu ht
  | true =>
    obtain ⟨hl, he⟩ := readT_body m h ht
    unfold read1
    rw [ht, if_pos rfl]
    have hb : m.body = be 4 m.text.length ++ m.text := by unfold MD.body; rw [if_pos ht]
    rw [hb, rdB_app _ _ _ (by simp [be_length]), rdS_app _ _ _ (by simp [be_length]), ofBe4 (by omega)]
    have : rdB (m.text.length : Nat) ⟨m.text, false⟩ = m.text := by have := rdB_app m.text [] m.text.length rfl; simpa using this
    unfold readT
    rw [this]
    exact he.symm
theorem read2_body (m : MD) (h : m.ok = true) (hu : m.u32) : read2 m.kind m.body = m := by
  cases ht : talksB m.kind with
  | false => unfold read2; rw [ht]; exact readP_body (fun _ _ _ => rOneB_app) m h hu ht
  | true =>
    obtain ⟨hl, he⟩ := readT_body m h ht
    unfold read2
    rw [ht, if_pos rfl]
    have hb : m.body = be 2 0 ++ (be 2 m.text.length ++ m.text) := by unfold MD.body; rw [if_pos ht, be4_small (by omega), List.append_assoc]
    rw [hb, rdS_app _ _ _ (by simp [be_length]), rdB_app _ _ _ (by simp [be_length]), rdS_app _ _ _ (by simp [be_length]), ofBe_be, Nat.mod_eq_of_lt (by omega)]
    have : rdB (m.text.length : Nat) ⟨m.text, false⟩ = m.text := by have := rdB_app m.text [] m.text.length rfl; simpa using this
    unfold readT
    rw [this]
    exact he.symm

theorem MD.body_length (m : MD) (h : m.ok = true) : m.body.length ≤ 8300 := by
  obtain ⟨hus, ha0, ha1, ht0, ht1, hm⟩ := MD.ok_parts h
  cases ht : talksB m.kind with
  | true =>
    obtain ⟨hl, -⟩ := readT_body m h ht
    unfold MD.body
    rw [if_pos ht]
    simp [be_length]
    omega
  | false =>
    clear h
    obtain ⟨kind, id, addr, asn, time, reason, own, sent, came, text⟩ := m
    simp only [MD.used, ht, Bool.false_eq_true, if_false, MD.mk.injEq, true_and] at hus
    obtain ⟨u1, u2, u3, u4, u5⟩ := hus
    unfold MD.body
    rw [if_neg (by simp [ht])]
    simp only [List.length_append, be_length, List.length_replicate, MD.mid]
    dsimp only at *
    by_cases h0 : kind = 0
    · subst h0
      simp [MD.msgs] at hm
      have := whole_len hm
      simp
      omega
    by_cases h2 : kind = 2
    · subst h2
      simp [MD.msgs] at hm
      by_cases hn : notedB reason = true
      · have := whole_len (hm.2.resolve_left (by simp [hn]))
        simp [be_length]
        omega
      · have hc : came = [] := by rw [u4]; simp [hn]
        subst hc
        simp [be_length]
    by_cases h3 : kind = 3
    · subst h3
      simp [MD.msgs] at hm
      have := whole_len hm.1
      have := whole_len hm.2
      simp [be_length]
      omega
    · simp [MD.msgs, h0, h2, h3, ht] at hm
theorem MD.ok_kind {m : MD} (h : m.ok = true) : 0 ≤ m.kind ∧ m.kind ≤ 5 := by
  obtain ⟨-, -, -, -, -, hm⟩ := MD.ok_parts h
  unfold MD.msgs at hm
  split at hm
  · omega
  split at hm
  · omega
  split at hm
  · omega
  split at hm
  · rename_i ht; simp [talksB] at ht; omega
  · cases hm

/-- bytes' head -/
def bN (l : List UInt8) : Nat := ofBe ((l.drop 1).take 4)
def bhd (l : List UInt8) : Bool := decide (6 ≤ l.length) && decide (l.getD 0 0 = 3) && decide (6 ≤ bN l) && decide (bN l ≤ l.length)
def bread (rd : Int → List UInt8 → MD) (l : List UInt8) : MD := rd (l.getD 5 0).toNat ((l.take (bN l)).drop 6)
def bgetW (rd : Int → List UInt8 → MD) (l : List UInt8) : Option (MD × Nat) :=
  if bhd l then if (bread rd l).ok && decide ((bread rd l).put = l.take (bN l)) then some (bread rd l, bN l) else none else none
def bget (l : List UInt8) : Option (MD × Nat) := bgetW read1 l
theorem MD.put_length (m : MD) : m.put.length = 6 + m.body.length := by simp [MD.put, be_length]; omega
theorem MD.put_at (m : MD) (h : m.ok = true) (y : List UInt8) : bhd (m.put ++ y) = true ∧ bN (m.put ++ y) = m.put.length ∧ (m.put ++ y).getD 5 0 = UInt8.ofNat m.kind.toNat ∧ ((m.put ++ y).take m.put.length).drop 6 = m.body := by
  have hbl := m.body_length h
  have hN : bN (m.put ++ y) = m.put.length := by
    unfold bN
    rw [m.put_length]
    have : ((m.put ++ y).drop 1).take 4 = be 4 (6 + m.body.length) := by
      rw [show m.put ++ y = 3 :: (be 4 (6 + m.body.length) ++ (be 1 m.kind.toNat ++ m.body ++ y)) from by simp [MD.put]]
      rw [List.drop_one, List.tail_cons, List.take_append_of_le_length (by simp [be_length]), List.take_of_length_le (by simp [be_length])]
    rw [this, ofBe4 (by omega)]
  have hT : (m.put ++ y).take m.put.length = m.put := by rw [List.take_append_of_le_length (Nat.le_refl _), List.take_length]
  refine ⟨?_, hN, ?_, ?_⟩
  · have hl := m.put_length
    simp only [bhd, hN, Bool.and_eq_true, decide_eq_true_eq]
    refine ⟨⟨⟨by simp; omega, by simp [MD.put]⟩, by omega⟩, by simp⟩
  · simp [MD.put, be]
  · rw [hT]
    simp [MD.put, be]
theorem bgetW_put {rd : Int → List UInt8 → MD} (hrd : ∀ m : MD, m.ok = true → m.u32 → rd m.kind m.body = m) (m : MD) (h : m.ok = true) (hu : m.u32) (y : List UInt8) : bgetW rd (m.put ++ y) = some (m, m.put.length) := by
  obtain ⟨h1, h2, h3, h4⟩ := m.put_at h y
  obtain ⟨k0, k5⟩ := MD.ok_kind h
  have hr : bread rd (m.put ++ y) = m := by
    unfold bread
    rw [h2, h3, h4]
    have : (((UInt8.ofNat m.kind.toNat).toNat : Nat) : Int) = m.kind := by
      rw [UInt8.toNat_ofNat', Nat.mod_eq_of_lt (by omega)]; omega
    rw [this]
    exact hrd m h hu
  unfold bgetW
  rw [if_pos h1, hr, h2, h]
  simp
theorem bgetW_some {rd : Int → List UInt8 → MD} (hu : ∀ k b, (rd k b).u32) {l : List UInt8} {m : MD} {n : Nat} (h : bgetW rd l = some (m, n)) : m.ok = true ∧ m.u32 ∧ n = m.put.length ∧ ∃ y, l = m.put ++ y := by
  unfold bgetW at h
  split at h
  · rename_i hh
    split at h
    · rename_i hk
      simp only [Option.some.injEq, Prod.mk.injEq] at h
      obtain ⟨rfl, rfl⟩ := h
      simp only [Bool.and_eq_true, decide_eq_true_eq] at hk
      simp only [bhd, Bool.and_eq_true, decide_eq_true_eq] at hh
      refine ⟨hk.1, hu _ _, ?_, l.drop (bN l), ?_⟩
      · rw [hk.2]; simp; omega
      · rw [hk.2, List.take_append_drop]
    · cases h
  · cases h
theorem rget_eq (l : List UInt8) : bgetW read2 l = bget l := by
  unfold bget
  cases h1 : bgetW read1 l with
  | some x =>
    obtain ⟨m, n⟩ := x
    obtain ⟨hk, hu, rfl, y, rfl⟩ := bgetW_some read1_u32 h1
    exact bgetW_put read2_body m hk hu y
  | none =>
    cases h2 : bgetW read2 l with
    | none => rfl
    | some x =>
      obtain ⟨m, n⟩ := x
      obtain ⟨hk, hu, rfl, y, rfl⟩ := bgetW_some read2_u32 h2
      rw [bgetW_put read1_body m hk hu y] at h1
      cases h1
theorem bget_put (m : MD) (h : m.ok = true) (hu : m.u32) (y : List UInt8) : bget (m.put ++ y) = some (m, m.put.length) := bgetW_put read1_body m h hu y
theorem bget_some {l : List UInt8} {m : MD} {n : Nat} (h : bget l = some (m, n)) : m.ok = true ∧ m.u32 ∧ 6 ≤ n ∧ n ≤ l.length ∧ n ≤ 8306 ∧ m.kind ≤ 5 := by
  obtain ⟨hk, hu, rfl, y, rfl⟩ := bgetW_some read1_u32 h
  have h1 := m.put_length
  have h2 := m.body_length hk
  have h3 := MD.ok_kind hk
  exact ⟨hk, hu, by omega, by simp, by omega, h3.2⟩
end Go.Proofs.YtbmbpcibihddaaaDoor
