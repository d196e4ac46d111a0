/-
  Which ways several paths are told, as the evaluator says it. No condition.
-/
import Derived.Test.YtojcehhfeleclaaGreatDoorTopB
import Derived.Test.YtojcehhfeleclaaGreatDoorEv4
namespace Go.Proofs.YtojcehhfeleclaaGreatDoor
open Go.ChangeShapes Go.WideShapes Go.ChangeAt Go.RowKit Go.Shelf

/-- one block is changed, others are made -/
theorem tr_only {G : Nat} {φ : Ev.Phi} {h : Ev.Hp} {w w' : World} (r : Ev.SRel G φ h w) {b : Nat} {x x' : Ev.Blk} {p : Ev.Pl} {ob' : Obj} (hG : G ≤ b) (hb : h.get b = some x) (hp : φ b = some p)
    (hsz : w.heap.size ≤ w'.heap.size) (hsame : ∀ B, B < w.heap.size → B ≠ p.B → w'.heap[B]? = w.heap[B]?) (hob : w'.heap[p.B]? = some ob') (ho : Ev.RelO φ x' ob' p) (he : Ev.Env w w') : Ev.Tr G φ h w φ (h.put b x') w' := by
  refine ⟨.refl _, ⟨⟨?_, ?_⟩, ?_, r.glob, r.olo⟩, by simp, fun b e1 e2 => absurd e1 e2, hsz, ?_, ?_, .put h b x', he⟩
  · intro b' y hb'
    rw [Ev.Hp.get_put] at hb'
    by_cases e : b' = b
    · subst e
      simp at hb'
      subst hb'
      exact ⟨p, ob', hp, hob, ho⟩
    · rw [if_neg e] at hb'
      obtain ⟨q, o, h1, h2, h3⟩ := r.heap.blk b' y hb'
      refine ⟨q, o, h1, ?_, h3⟩
      have hne : q.B ≠ p.B := fun he => e (r.heap.inj _ _ _ _ _ _ hb' hb h1 hp he)
      rw [hsame q.B (Array.getElem?_eq_some_iff.1 h2).1 hne]
      exact h2
  · intro b1 b2 y1 y2 q1 q2 h1 h2 hq1 hq2 e
    rw [Ev.Hp.get_put] at h1 h2
    have k1 : ∃ z, h.get b1 = some z := by by_cases e1 : b1 = b; exact ⟨x, e1 ▸ hb⟩; rw [if_neg e1] at h1; exact ⟨_, h1⟩
    have k2 : ∃ z, h.get b2 = some z := by by_cases e1 : b2 = b; exact ⟨x, e1 ▸ hb⟩; rw [if_neg e1] at h2; exact ⟨_, h2⟩
    obtain ⟨z1, k1⟩ := k1
    obtain ⟨z2, k2⟩ := k2
    exact r.heap.inj _ _ _ _ _ _ k1 k2 hq1 hq2 e
  · intro b' q hq; rw [Ev.Hp.next_put]; exact r.lt _ _ hq
  · intro B hB hl
    exact hsame B hB fun e => hl ⟨b, x, p, hG, hb, hp, e.symm⟩
  · intro b' y q hb' hq
    rw [Ev.Hp.get_put] at hb'
    by_cases e : b' = b
    · exact .inl ⟨x, e ▸ hb⟩
    · rw [if_neg e] at hb'; exact .inl ⟨y, hb'⟩

noncomputable def u8L (l : List Ev.AV) : Option (List UInt8) := match l with
  | [] => some []
  | a :: l => match a with
    | .int .u8 (.ofNat m) => match Nat.blt m 256 with
      | true => match u8L l with
        | some r => some (UInt8.ofNat m :: r)
        | none => none
      | false => none
    | _ => none
theorem u8L_ok {φ : Ev.Phi} : ∀ {l : List Ev.AV} {bs : List UInt8} {us : List Value}, u8L l = some bs → Ev.RelL φ l us → us = bs.map vb
  | [], bs, us, h, r => by
    simp only [u8L, Option.some.injEq] at h
    subst h
    rw [Ev.relL_nil] at r
    exact r
  | a :: l, bs, us, h, r => by
    obtain ⟨v, vs, rfl, r1, r2⟩ := Ev.relL_cons.1 r
    simp only [u8L] at h
    split at h
    · rename_i m
      split at h
      · rename_i hm
        have hm : m < 256 := Nat.lt_of_succ_le (by simpa [Nat.blt] using hm)
        split at h
        · rename_i rs hr
          injection h with h
          subst h
          have := u8L_ok hr r2
          subst this
          simp only [Ev.RelV] at r1
          subst r1
          simp only [List.map_cons, vb]
          congr 2
          simp
          omega
        · cases h
      · cases h
    · cases h

noncomputable def pathsS (xs : List Ev.AV) (h : Ev.Hp) : Option (Ev.AV × Ev.Hp) := match xs with
  | [.ptr sb so, .sl b o len _ _ sz] => match Nat.beq so 0 && (Nat.ble 12 sb && (!Nat.beq sb b && (Nat.ble len 1000000 && (Nat.beq (Nat.mul 4 (Nat.div len 4)) len && (Nat.ble 1 len && Nat.beq sz 1))))) with
    | true => match Ev.hRead h b o len with
      | some l => match u8L l with
        | some bs => match h.get sb with
          | some (.row e lo n z cs) => match Ev.cellA z lo n cs 4 with
            | some (.int .i64 pv) => some (.tup [], h.put sb (.row e lo n z (cs.set (some (.int .i64 (pathsL bs pv))) (Ev.Ps.of 4))))
            | _ => none
          | _ => none
        | none => none
      | none => none
    | false => none
  | _ => none
theorem hRead_row {h : Ev.Hp} {b o k : Nat} {l : List Ev.AV} (hr : Ev.hRead h b o k = some l) : ∃ e lo n z cs, h.get b = some (.row e lo n z cs) := by
  unfold Ev.hRead at hr
  split at hr
  · rename_i e lo n z cs hb; exact ⟨e, lo, n, z, cs, hb⟩
  · cases hr
theorem paths_summ : Ev.SummP Tryz.prog 12 583 pathsS := by
  intro xs h v h' hh φ w args s hr
  unfold pathsS at hh
  split at hh
  · rename_i sb so b o len lb ex sz
    split at hh
    · rename_i hc
      simp only [Bool.and_eq_true, Bool.not_eq_true', Nat.ble_eq] at hc
      obtain ⟨c1, c2, c3, c4, c5, c6, c7⟩ := hc
      have c1 := Nat.eq_of_beq_eq_true c1
      have c5 := Nat.eq_of_beq_eq_true c5
      have c7 := Nat.eq_of_beq_eq_true c7
      have c3 : sb ≠ b := fun e => by rw [e] at c3; simp at c3
      subst c1 c7
      split at hh
      · rename_i l hl
        split at hh
        · rename_i bs hbs
          split at hh
          · rename_i e lo n z cs hsb
            split at hh
            · rename_i pv hpv
              injection hh with hh
              injection hh with e1 e2
              subst e1 e2
              obtain ⟨u1, us, e3, r1, r2⟩ := Ev.relL_cons.1 hr
              obtain ⟨u2, us', rfl, r3, r4⟩ := Ev.relL_cons.1 r2
              rw [Ev.relL_nil] at r4
              subst r4
              simp only [Ev.RelV] at r1 r3
              obtain ⟨p, hp, hlo, rfl⟩ := r1
              obtain ⟨q, j, C, hq, rfl, g1, g2, _, g4, g5⟩ := r3
              obtain ⟨p', c, fz, hp', hB, k1, k2, k3, k4, k5⟩ := Ev.row_of s hsb
              rw [hp] at hp'
              injection hp' with hp'
              subst hp'
              have hpo : p.o = 0 := by have := s.olo _ _ hp; omega
              obtain ⟨u, hu, hru⟩ := k4 4 _ hpv
              have hplo : lo = 0 := by omega
              subst hplo
              rw [hpo] at hu
              simp only [Nat.zero_add, Nat.sub_zero] at hu
              simp only [Ev.RelV] at hru
              subst hru
              have hcs : 4 < c.size := (Array.getElem?_eq_some_iff.1 hu).1
              have hfz : ¬(fz.1 ≤ 4 ∧ 4 < fz.2) := k5 4 (by omega)
              have hset : c.setIfInBounds 4 (.int .i64 pv) = c := by
                apply Array.ext_getElem?
                intro i
                by_cases hi : i = 4
                · subst hi; rw [hu]; simp [hcs]
                · rw [Array.getElem?_setIfInBounds_ne (by omega)]
              have hSaid : SaidP ⟨c, e, fz, hcs, hfz⟩ w p.B pv := by
                unfold SaidP
                rw [hset]
                exact hB
              obtain ⟨e', lo', n', z', cs', hb'⟩ := hRead_row hl
              have hlen : l.length = len := by
                have hl' := hl
                unfold Ev.hRead at hl'
                rw [hb'] at hl'
                exact (Ev.readN_spec hl').1
              obtain ⟨q', c', fz', hq', hB', m1, m2, m3, m4, m5⟩ := Ev.row_of s hb'
              rw [hq] at hq'
              injection hq' with hq'
              subst hq'
              obtain ⟨gq1, gq2⟩ := g5 (by omega)
              have hread : ∀ jj u, (bs.map vb)[jj]? = some u → w.cell? ⟨q.B, j + jj, none⟩ = some u := by
                have hRL : ∃ us, Ev.RelL φ l us ∧ ∀ jj u, us[jj]? = some u → w.cell? ⟨q.B, j + jj, none⟩ = some u := by
                  have hall : ∀ (l : List Ev.AV) (i : Nat), (∀ k a, l[k]? = some a → ∃ v, w.cell? ⟨q.B, j + (i + k), none⟩ = some v ∧ Ev.RelV φ a v) → ∃ us, Ev.RelL φ l us ∧ ∀ jj u, us[jj]? = some u → w.cell? ⟨q.B, j + (i + jj), none⟩ = some u := by
                    intro l
                    induction l with
                    | nil => intro i _; exact ⟨[], by simp, fun jj u hu => by simp at hu⟩
                    | cons a l ih =>
                      intro i ha
                      obtain ⟨v, hv1, hv2⟩ := ha 0 a rfl
                      obtain ⟨us, h1, h2⟩ := ih (i + 1) (fun k a' hk => by
                        obtain ⟨v, q1, q2⟩ := ha (k + 1) a' (by simpa using hk)
                        exact ⟨v, by rw [show i + 1 + k = i + (k + 1) by omega]; exact q1, q2⟩)
                      refine ⟨v :: us, Ev.relL_cons_cons.2 ⟨hv2, h1⟩, fun jj u hu => ?_⟩
                      cases jj with
                      | zero => simp at hu; subst hu; exact hv1
                      | succ jj =>
                        have := h2 jj u (by simpa using hu)
                        rw [show i + (jj + 1) = i + 1 + jj by omega]
                        exact this
                  obtain ⟨us, h1, h2⟩ := hall l 0 (fun k a hk => by
                    have hl' := hl
                    unfold Ev.hRead at hl'
                    rw [hb'] at hl'
                    have hca := (Ev.readN_spec hl').2 k a hk
                    obtain ⟨v, q1, q2⟩ := m4 _ _ hca
                    refine ⟨v, ?_, q2⟩
                    rw [Ev.cell_of hB']
                    rw [show j + (0 + k) = q.o + (o + k - lo') by omega]
                    exact q1)
                  exact ⟨us, h1, fun jj u hu => by simpa using h2 jj u hu⟩
                obtain ⟨us, h1, h2⟩ := hRL
                rw [← u8L_ok hbs h1]
                exact h2
              have hbl : bs.length = 4 * (len / 4) := by
                have : ∀ {l : List Ev.AV} {bs : List UInt8}, u8L l = some bs → bs.length = l.length := by
                  intro l
                  induction l with
                  | nil => intro bs h; simp only [u8L, Option.some.injEq] at h; subst h; rfl
                  | cons a l ih =>
                    intro bs h
                    simp only [u8L] at h
                    split at h
                    · split at h
                      · split at h
                        · rename_i rs hr; injection h with h; subst h; simp [ih hr]
                        · cases h
                      · cases h
                    · cases h
                rw [this hbs, hlen]
                exact c5.symm
              have hqp : q.B ≠ p.B := fun hc => c3 (s.heap.inj _ _ _ _ _ _ hsb hb' hp hq hc.symm)
              have hargs : args = #[.pointer (some ⟨p.B, 0, none⟩), .slice (some ⟨q.B, j, none⟩) (4 * (len / 4)) C] := by
                apply Array.toList_inj.1
                rw [e3, hpo]
                have hp0 : p.lo = 0 := by omega
                have c5' : 4 * (len / 4) = len := c5
                rw [c5', hp0]
              rw [hargs]
              have c5' : 4 * (len / 4) = len := c5
              refine (paths_any (cap := C) hSaid hbl (by omega) (by omega) hqp (Array.getElem?_eq_some_iff.1 hB').1 hread).mono ?_
              rintro ee w' ⟨rfl, hS', hO⟩
              refine ⟨.tuple #[], φ, rfl, ?_, by simp only [Ev.RelV]; exact ⟨_, rfl, by simp⟩⟩
              refine tr_only s c2 hsb hp hO.size (fun B hB1 hB2 => hO.block B hB1 hB2) hS' ?_ ⟨hO.os, hO.tape, hO.output⟩
              refine ⟨k1, _, fz, rfl, by simpa using k2, k3, ?_, k5⟩
              intro i a hi
              obtain ⟨b1, b2⟩ := Ev.cellA_bounds hi
              have hb4 := Ev.cellA_bounds hpv
              rw [Ev.cellA_set hb4.1 hb4.2] at hi
              by_cases hi4 : i = 4
              · subst hi4
                simp at hi
                subst hi
                exact ⟨.int .i64 (pathsL bs pv), by simp [hpo, hcs], by simp only [Ev.RelV]⟩
              · rw [if_neg hi4] at hi
                obtain ⟨y, hy, hry⟩ := k4 _ _ hi
                refine ⟨y, ?_, hry⟩
                rw [Array.getElem?_setIfInBounds_ne (by omega)]
                exact hy
            · cases hh
          · cases hh
        · cases hh
      · cases hh
    · cases hh
  · cases hh
end Go.Proofs.YtojcehhfeleclaaGreatDoor
