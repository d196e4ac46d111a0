/-
  Loads, the document's: adding, taking away, what fits. Under: they stand in memory.
-/
import Derived.Test.YtneablcgcdmgpaaLoadG
namespace Go.Proofs.Ytneablcgcdmgpaa
open Go.ChangeShapes Go.WideShapes Go.ChangeAt Go.RowKit Go.Maps

theorem addZ_near (a b : Int) : addZ a (nearZ b) = addZ a b := by
  have h := nearZ_bd b
  have e : nearZ (nearZ b) = nearZ b := nearZ_in h.1 h.2
  unfold addZ
  rw [e]
theorem subZ_near (a b : Int) : subZ a (nearZ b) = subZ a b := by
  have h := nearZ_bd b
  have e : nearZ (nearZ b) = nearZ b := nearZ_in h.1 h.2
  unfold subZ
  rw [e]
theorem rover_set {w : World} {F : Nat → Prop} {h : Nat} {x : LD} (r : RefAt w F h x) (q : Bool) : RefAt (w.setCell ⟨h, 1, none⟩ (.bool q)) F h ⟨x.s, q⟩ ∧ Only (fun k => k = h) w (w.setCell ⟨h, 1, none⟩ (.bool q)) := by
  obtain ⟨A, c, hB, hrd⟩ := r.mem
  have hB2 := hB.set_ 1 (.bool q)
  have ho2 : Only (fun k => k = h) w (w.setCell ⟨h, 1, none⟩ (.bool q)) := (Only.refl (fun k => k = h) w).setCell (p := ⟨h, 1, none⟩) (fun _ => rfl) _
  exact ⟨⟨⟨A, c, hB2, hrd.only ho2 (fun k _ hk e => r.off (by subst e; exact hk))⟩, r.off⟩, ho2⟩
theorem RefAt.mono {w : World} {F G : Nat → Prop} {h : Nat} {x : LD} (r : RefAt w F h x) (hF : ∀ k, k < w.heap.size → F k → G k) (hG : ¬ G h) : RefAt w G h x := by
  obtain ⟨A, c, hB, hrd⟩ := r.mem
  exact ⟨⟨A, c, hB, hrd.mono hF⟩, hG⟩
set_option maxRecDepth 10000 in
set_option maxHeartbeats 8000000 in
theorem radd2_any {w : World} {F : Nat → Prop} {h : Nat} {x : LD} (r : RefAt w F h x) (hx : x.ok) (hl : x.s.length ≤ 1000000) (i n : Int) :
    Calls Try.prog 11 #[.pointer (some ⟨h, 0, none⟩), .int .i64 i, .int .i64 n] w fun e w' => e = .returned (.tuple #[]) ∧ RefAt w' (fun k => F k ∨ w.heap.size ≤ k) h (x.add i n) ∧ Only (fun k => k = h) w w' := by
  have hlt := r.lt
  have HOF := Lib.hid (rof_any r hx hl i)
  have HOS := Lib.hid fun q => rover_set r q
  have HXO := Lib.hid hx
  obtain ⟨A, c, hB, _⟩ := r.mem
  have hc1 := hB.cell 1
  simp at hc1
  have hf1 := hB.frozen 1
  have HNH := Lib.hid r.off
  have HN := Lib.hid fun (q : Bool) (hq : q = (x.o || isCap (nearZ n))) (hneg : i < 0) => (show RefAt (w.setCell ⟨h, 1, none⟩ (.bool q)) (fun k => F k ∨ w.heap.size ≤ k) h (x.add i n) ∧ Only (fun k => k = h) w (w.setCell ⟨h, 1, none⟩ (.bool q)) from by
    obtain ⟨h1, h2⟩ := HOS.out q
    have e : x.add i n = ⟨x.s, q⟩ := by
      unfold LD.add
      have hi : ¬ 0 ≤ i := by omega
      rw [if_neg hi, decide_eq_false hi, hq]
      simp
    rw [e]
    exact ⟨h1.mono (fun _ _ h => .inl h) (by rintro (h | h); exact HNH.out h; omega), h2⟩)
  have HY := Lib.hid fun (q : Bool) (hq : q = (x.o || isCap (nearZ n) || isCap (addZ (getZ x.s i) n))) (hpos : 0 ≤ i) => (show Calls Try.prog 30 #[.pointer (some ⟨h, 0, none⟩), .int .i64 i, .int .i64 (addZ (getZ x.s i) n)] (w.setCell ⟨h, 1, none⟩ (.bool q)) fun e w' => e = .returned (.tuple #[]) ∧ RefAt w' (fun k => F k ∨ w.heap.size ≤ k) h (x.add i n) ∧ Only (fun k => k = h) w w' from by
    obtain ⟨h1, h2⟩ := HOS.out q
    have hok2 : (LD.mk x.s true).ok := ⟨hx.ris, hx.pos, hx.key, fun _ _ _ => rfl⟩
    have h3 := rset_any (y := ⟨x.s, q⟩) h1 (by
      refine ⟨hx.ris, hx.pos, hx.key, fun p hp e => ?_⟩
      rw [hq, hx.cap p hp e]
      rfl) hl i (addZ (getZ x.s i) n)
    refine h3.mono ?_
    rintro e w' ⟨rfl, hr, ho⟩
    have e : x.add i n = ⟨setZ x.s i (addZ (getZ x.s i) n), q⟩ := by
      unfold LD.add
      rw [if_pos hpos, decide_eq_true hpos, hq]
      simp
    rw [e]
    refine ⟨rfl, hr.mono (fun k _ hk => .inr ?_) (by rintro (h | h); exact HNH.out h; omega), h2.trans ho (fun _ _ h => h)⟩
    simpa using hk)
  clear r hx hB
  obtain ⟨s, o⟩ := x
  simp only at *
  have hnb := nearZ_bd n
  have hab := addZ_b (getZ s i) n
  have HNN := Lib.hid (addZ_near (getZ s i) n)
  generalize (LD.mk s o).add i n = y at *
  generalize addZ (getZ s i) n = sm at *
  by_cases hi0 : 0 ≤ i
  · clear HN
    cases o with
    | true =>
      have HNNX := Lib.hid HNN.out
      go_enter Try.func11, Try.ntmps11
      go_wp2_with (first | (go_at_call 28; refine (rnear_any _ _).mono ?_; rintro e w' ⟨rfl, rfl⟩) | (go_at_call 18; refine (HOF.out).mono ?_; rintro e w' ⟨rfl, rfl⟩) | (go_at_call 29; refine (radd_any _ _ _).mono ?_; rintro e w' ⟨rfl, rfl⟩; rw [HNNX.out]))
      refine (HY.out true rfl (by omega)).mono ?_
      rintro e w2 ⟨rfl, hr2, ho2⟩
      have HR2 := Lib.hid hr2
      clear hr2
      go_wp2_with fail
      refine bodyPost_end (results_none rfl _ _ _) rfl ?_
      exact ⟨rfl, HR2.out, ho2⟩
    | false =>
      by_cases hcap : nearZ n = 9007199254740991
      · have hcb : (nearZ n == 9007199254740991) = true := by simpa using hcap
        have HCY := Lib.hid (show isCap (nearZ n) = true from decide_eq_true hcap)
        have HNNX := Lib.hid (show addZ (getZ s i) 9007199254740991 = sm by rw [← hcap]; exact HNN.out)
        go_enter Try.func11, Try.ntmps11
        go_wp2_with (first | (go_at_call 28; refine (rnear_any _ _).mono ?_; rintro e w' ⟨rfl, rfl⟩; rw [hcap]) | (go_at_call 18; refine (HOF.out).mono ?_; rintro e w' ⟨rfl, rfl⟩) | (go_at_call 29; refine (radd_any _ _ _).mono ?_; rintro e w' ⟨rfl, rfl⟩; rw [HNNX.out]))
        refine (HY.out true (by rw [HCY.out]; rfl) (by omega)).mono ?_
        rintro e w2 ⟨rfl, hr2, ho2⟩
        have HR2 := Lib.hid hr2
        clear hr2
        go_wp2_with fail
        refine bodyPost_end (results_none rfl _ _ _) rfl ?_
        exact ⟨rfl, HR2.out, ho2⟩
      · have hcb : (nearZ n == 9007199254740991) = false := by simpa using hcap
        have HCY := Lib.hid (show isCap (nearZ n) = false from decide_eq_false hcap)
        have HNNX := Lib.hid HNN.out
        by_cases hsm : sm = 9007199254740991
        · have hsb : (sm == 9007199254740991) = true := by simpa using hsm
          have HSY := Lib.hid (show isCap sm = true from decide_eq_true hsm)
          have HY2 := Lib.hid (HY.out true (by rw [HCY.out, HSY.out]; rfl) (by omega))
          rw [hsm] at HY2
          go_enter Try.func11, Try.ntmps11
          go_wp2_with (first | (go_at_call 28; refine (rnear_any _ _).mono ?_; rintro e w' ⟨rfl, rfl⟩) | (go_at_call 18; refine (HOF.out).mono ?_; rintro e w' ⟨rfl, rfl⟩) | (go_at_call 29; refine (radd_any _ _ _).mono ?_; rintro e w' ⟨rfl, rfl⟩; rw [HNNX.out]))
          refine (HY2.out).mono ?_
          rintro e w2 ⟨rfl, hr2, ho2⟩
          have HR2 := Lib.hid hr2
          clear hr2
          go_wp2_with fail
          refine bodyPost_end (results_none rfl _ _ _) rfl ?_
          exact ⟨rfl, HR2.out, ho2⟩
        · have hsb : (sm == 9007199254740991) = false := by simpa using hsm
          have HSY := Lib.hid (show isCap sm = false from decide_eq_false hsm)
          go_enter Try.func11, Try.ntmps11
          go_wp2_with (first | (go_at_call 28; refine (rnear_any _ _).mono ?_; rintro e w' ⟨rfl, rfl⟩) | (go_at_call 18; refine (HOF.out).mono ?_; rintro e w' ⟨rfl, rfl⟩) | (go_at_call 29; refine (radd_any _ _ _).mono ?_; rintro e w' ⟨rfl, rfl⟩; rw [HNNX.out]))
          refine (HY.out false (by rw [HCY.out, HSY.out]; rfl) (by omega)).mono ?_
          rintro e w2 ⟨rfl, hr2, ho2⟩
          have HR2 := Lib.hid hr2
          clear hr2
          go_wp2_with fail
          refine bodyPost_end (results_none rfl _ _ _) rfl ?_
          exact ⟨rfl, HR2.out, ho2⟩
  · clear HY
    cases o with
    | true =>
      have HNNX := Lib.hid HNN.out
      go_enter Try.func11, Try.ntmps11
      go_wp2_with (first | (go_at_call 28; refine (rnear_any _ _).mono ?_; rintro e w' ⟨rfl, rfl⟩) | (go_at_call 18; refine (HOF.out).mono ?_; rintro e w' ⟨rfl, rfl⟩) | (go_at_call 29; refine (radd_any _ _ _).mono ?_; rintro e w' ⟨rfl, rfl⟩; rw [HNNX.out]))
      refine bodyPost_end (results_none rfl _ _ _) rfl ?_
      exact ⟨rfl, HN.out true rfl (by omega)⟩
    | false =>
      by_cases hcap : nearZ n = 9007199254740991
      · have hcb : (nearZ n == 9007199254740991) = true := by simpa using hcap
        have HCY := Lib.hid (show isCap (nearZ n) = true from decide_eq_true hcap)
        have HNNX := Lib.hid (show addZ (getZ s i) 9007199254740991 = sm by rw [← hcap]; exact HNN.out)
        go_enter Try.func11, Try.ntmps11
        go_wp2_with (first | (go_at_call 28; refine (rnear_any _ _).mono ?_; rintro e w' ⟨rfl, rfl⟩; rw [hcap]) | (go_at_call 18; refine (HOF.out).mono ?_; rintro e w' ⟨rfl, rfl⟩) | (go_at_call 29; refine (radd_any _ _ _).mono ?_; rintro e w' ⟨rfl, rfl⟩; rw [HNNX.out]))
        refine bodyPost_end (results_none rfl _ _ _) rfl ?_
        exact ⟨rfl, HN.out true (by rw [HCY.out]; rfl) (by omega)⟩
      · have hcb : (nearZ n == 9007199254740991) = false := by simpa using hcap
        have HCY := Lib.hid (show isCap (nearZ n) = false from decide_eq_false hcap)
        have HNNX := Lib.hid HNN.out
        go_enter Try.func11, Try.ntmps11
        go_wp2_with (first | (go_at_call 28; refine (rnear_any _ _).mono ?_; rintro e w' ⟨rfl, rfl⟩) | (go_at_call 18; refine (HOF.out).mono ?_; rintro e w' ⟨rfl, rfl⟩) | (go_at_call 29; refine (radd_any _ _ _).mono ?_; rintro e w' ⟨rfl, rfl⟩; rw [HNNX.out]))
        refine bodyPost_end (results_none rfl _ _ _) rfl ?_
        exact ⟨rfl, HN.out false (by rw [HCY.out]; rfl) (by omega)⟩
set_option maxRecDepth 10000 in
set_option maxHeartbeats 8000000 in
theorem rsub2_any {w : World} {F : Nat → Prop} {h : Nat} {x : LD} (r : RefAt w F h x) (hx : x.ok) (hl : x.s.length ≤ 1000000) (i n : Int) :
    Calls Try.prog 13 #[.pointer (some ⟨h, 0, none⟩), .int .i64 i, .int .i64 n] w fun e w' => e = .returned (.tuple #[]) ∧ RefAt w' (fun k => F k ∨ w.heap.size ≤ k) h (x.sub i n) ∧ Only (fun k => k = h) w w' := by
  have hlt := r.lt
  have HOS := Lib.hid fun q => rover_set r q
  obtain ⟨A, c, hB, _⟩ := r.mem
  have hc1 := hB.cell 1
  simp at hc1
  have hf1 := hB.frozen 1
  have HNH := Lib.hid r.off
  have HN := Lib.hid fun (q : Bool) (hq : q = (x.o || isCap (nearZ n))) (hneg : i < 0) => (show RefAt (w.setCell ⟨h, 1, none⟩ (.bool q)) (fun k => F k ∨ w.heap.size ≤ k) h (x.sub i n) ∧ Only (fun k => k = h) w (w.setCell ⟨h, 1, none⟩ (.bool q)) from by
    obtain ⟨h1, h2⟩ := HOS.out q
    have e : x.sub i n = ⟨x.s, q⟩ := by
      unfold LD.sub
      have hi : ¬ 0 ≤ i := by omega
      rw [if_neg hi, hq]
    rw [e]
    exact ⟨h1.mono (fun _ _ h => .inl h) (by rintro (h | h); exact HNH.out h; omega), h2⟩)
  have HQ := Lib.hid fun (q : Bool) (hq : q = (x.o || isCap (nearZ n))) => (show (LD.mk x.s q).ok from ⟨hx.ris, hx.pos, hx.key, fun p hp e => by rw [hq, hx.cap p hp e]; rfl⟩)
  have HOF := Lib.hid fun (q : Bool) (hq : q = (x.o || isCap (nearZ n))) => rof_any (x := ⟨x.s, q⟩) (HOS.out q).1 (HQ.out q hq) hl i
  have HY := Lib.hid fun (q : Bool) (hq : q = (x.o || isCap (nearZ n))) (hpos : 0 ≤ i) => (show Calls Try.prog 30 #[.pointer (some ⟨h, 0, none⟩), .int .i64 i, .int .i64 (subZ (getZ x.s i) n)] (w.setCell ⟨h, 1, none⟩ (.bool q)) fun e w' => e = .returned (.tuple #[]) ∧ RefAt w' (fun k => F k ∨ w.heap.size ≤ k) h (x.sub i n) ∧ Only (fun k => k = h) w w' from by
    obtain ⟨h1, h2⟩ := HOS.out q
    have h3 := rset_any (y := ⟨x.s, q⟩) h1 (HQ.out q hq) hl i (subZ (getZ x.s i) n)
    refine h3.mono ?_
    rintro e w' ⟨rfl, hr, ho⟩
    have e : x.sub i n = ⟨setZ x.s i (subZ (getZ x.s i) n), q⟩ := by
      unfold LD.sub
      rw [if_pos hpos, hq]
    rw [e]
    refine ⟨rfl, hr.mono (fun k _ hk => .inr ?_) (by rintro (h | h); exact HNH.out h; omega), h2.trans ho (fun _ _ h => h)⟩
    simpa using hk)
  clear r hx hB HQ
  obtain ⟨s, o⟩ := x
  simp only at *
  have hnb := nearZ_bd n
  have HNN := Lib.hid (subZ_near (getZ s i) n)
  generalize (LD.mk s o).sub i n = y at *
  generalize subZ (getZ s i) n = sm at *
  by_cases hi0 : 0 ≤ i
  · clear HN
    cases o with
    | true =>
      have HNNX := Lib.hid HNN.out
      go_enter Try.func13, Try.ntmps13
      go_wp2_with (first | (go_at_call 28; refine (rnear_any _ _).mono ?_; rintro e w' ⟨rfl, rfl⟩) | (go_at_call 18; refine (HOF.out true rfl).mono ?_; rintro e w' ⟨rfl, rfl⟩) | (go_at_call 32; refine (rsub_any _ _ _).mono ?_; rintro e w' ⟨rfl, rfl⟩; rw [HNNX.out]))
      refine (HY.out true rfl (by omega)).mono ?_
      rintro e w2 ⟨rfl, hr2, ho2⟩
      have HR2 := Lib.hid hr2
      clear hr2
      go_wp2_with fail
      refine bodyPost_end (results_none rfl _ _ _) rfl ?_
      exact ⟨rfl, HR2.out, ho2⟩
    | false =>
      by_cases hcap : nearZ n = 9007199254740991
      · have hcb : (nearZ n == 9007199254740991) = true := by simpa using hcap
        have HCY := Lib.hid (show isCap (nearZ n) = true from decide_eq_true hcap)
        have HNNX := Lib.hid (show subZ (getZ s i) 9007199254740991 = sm by rw [← hcap]; exact HNN.out)
        go_enter Try.func13, Try.ntmps13
        go_wp2_with (first | (go_at_call 28; refine (rnear_any _ _).mono ?_; rintro e w' ⟨rfl, rfl⟩; rw [hcap]) | (go_at_call 18; refine (HOF.out true (by rw [HCY.out]; rfl)).mono ?_; rintro e w' ⟨rfl, rfl⟩) | (go_at_call 32; refine (rsub_any _ _ _).mono ?_; rintro e w' ⟨rfl, rfl⟩; rw [HNNX.out]))
        refine (HY.out true (by rw [HCY.out]; rfl) (by omega)).mono ?_
        rintro e w2 ⟨rfl, hr2, ho2⟩
        have HR2 := Lib.hid hr2
        clear hr2
        go_wp2_with fail
        refine bodyPost_end (results_none rfl _ _ _) rfl ?_
        exact ⟨rfl, HR2.out, ho2⟩
      · have hcb : (nearZ n == 9007199254740991) = false := by simpa using hcap
        have HCY := Lib.hid (show isCap (nearZ n) = false from decide_eq_false hcap)
        have HNNX := Lib.hid HNN.out
        go_enter Try.func13, Try.ntmps13
        go_wp2_with (first | (go_at_call 28; refine (rnear_any _ _).mono ?_; rintro e w' ⟨rfl, rfl⟩) | (go_at_call 18; refine (HOF.out false (by rw [HCY.out]; rfl)).mono ?_; rintro e w' ⟨rfl, rfl⟩) | (go_at_call 32; refine (rsub_any _ _ _).mono ?_; rintro e w' ⟨rfl, rfl⟩; rw [HNNX.out]))
        refine (HY.out false (by rw [HCY.out]; rfl) (by omega)).mono ?_
        rintro e w2 ⟨rfl, hr2, ho2⟩
        have HR2 := Lib.hid hr2
        clear hr2
        go_wp2_with fail
        refine bodyPost_end (results_none rfl _ _ _) rfl ?_
        exact ⟨rfl, HR2.out, ho2⟩
  · clear HY
    cases o with
    | true =>
      have HNNX := Lib.hid HNN.out
      go_enter Try.func13, Try.ntmps13
      go_wp2_with (first | (go_at_call 28; refine (rnear_any _ _).mono ?_; rintro e w' ⟨rfl, rfl⟩) | (go_at_call 18; refine (HOF.out true rfl).mono ?_; rintro e w' ⟨rfl, rfl⟩) | (go_at_call 32; refine (rsub_any _ _ _).mono ?_; rintro e w' ⟨rfl, rfl⟩; rw [HNNX.out]))
      refine bodyPost_end (results_none rfl _ _ _) rfl ?_
      exact ⟨rfl, HN.out true rfl (by omega)⟩
    | false =>
      by_cases hcap : nearZ n = 9007199254740991
      · have hcb : (nearZ n == 9007199254740991) = true := by simpa using hcap
        have HCY := Lib.hid (show isCap (nearZ n) = true from decide_eq_true hcap)
        have HNNX := Lib.hid (show subZ (getZ s i) 9007199254740991 = sm by rw [← hcap]; exact HNN.out)
        go_enter Try.func13, Try.ntmps13
        go_wp2_with (first | (go_at_call 28; refine (rnear_any _ _).mono ?_; rintro e w' ⟨rfl, rfl⟩; rw [hcap]) | (go_at_call 18; refine (HOF.out true (by rw [HCY.out]; rfl)).mono ?_; rintro e w' ⟨rfl, rfl⟩) | (go_at_call 32; refine (rsub_any _ _ _).mono ?_; rintro e w' ⟨rfl, rfl⟩; rw [HNNX.out]))
        refine bodyPost_end (results_none rfl _ _ _) rfl ?_
        exact ⟨rfl, HN.out true (by rw [HCY.out]; rfl) (by omega)⟩
      · have hcb : (nearZ n == 9007199254740991) = false := by simpa using hcap
        have HCY := Lib.hid (show isCap (nearZ n) = false from decide_eq_false hcap)
        have HNNX := Lib.hid HNN.out
        go_enter Try.func13, Try.ntmps13
        go_wp2_with (first | (go_at_call 28; refine (rnear_any _ _).mono ?_; rintro e w' ⟨rfl, rfl⟩) | (go_at_call 18; refine (HOF.out false (by rw [HCY.out]; rfl)).mono ?_; rintro e w' ⟨rfl, rfl⟩) | (go_at_call 32; refine (rsub_any _ _ _).mono ?_; rintro e w' ⟨rfl, rfl⟩; rw [HNNX.out]))
        refine bodyPost_end (results_none rfl _ _ _) rfl ?_
        exact ⟨rfl, HN.out false (by rw [HCY.out]; rfl) (by omega)⟩
set_option maxRecDepth 10000 in
theorem rfits_any {w : World} {F : Nat → Prop} {h : Nat} {x : LD} (r : RefAt w F h x) (hx : x.ok) (hl : x.s.length ≤ 1000000) (i n limit : Int) :
    Calls Try.prog 20 #[.pointer (some ⟨h, 0, none⟩), .int .i64 i, .int .i64 n, .int .i64 limit] w fun e w' => e = .returned (.bool (x.fits i n limit)) ∧ w = w' := by
  have HF := Lib.hid fun (_ : Unit) => (show x.fits i n limit = (decide (0 ≤ i) && !x.o && decide (addZ (getZ x.s i) n ≤ limit)) from rfl)
  generalize x.fits i n limit = rr at *
  have HO := Lib.hid (rof_any r hx hl i)
  obtain ⟨A, c, hB, _⟩ := r.mem
  have hc1 := hB.cell 1
  simp at hc1
  clear r hx hB
  obtain ⟨s, o⟩ := x
  simp only at *
  by_cases hi0 : 0 ≤ i
  · cases o with
    | true =>
      have HE := Lib.hid (show rr = false by rw [HF.out ()]; simp)
      go_enter Try.func20, Try.ntmps20
      go_wp2_with fail
      go_ret
      exact ⟨by rw [HE.out]; rfl, rfl⟩
    | false =>
      have HE := Lib.hid (show rr = decide (addZ (getZ s i) n ≤ limit) by rw [HF.out ()]; simp [hi0])
      go_enter Try.func20, Try.ntmps20
      go_wp2_with (first | (go_at_call 18; refine (HO.out).mono ?_; rintro e w' ⟨rfl, rfl⟩) | (go_at_call 29; refine (radd_any _ _ _).mono ?_; rintro e w' ⟨rfl, rfl⟩))
      go_ret
      exact ⟨by rw [HE.out]; rfl, rfl⟩
  · have HE := Lib.hid (show rr = false by rw [HF.out ()]; simp [hi0])
    go_enter Try.func20, Try.ntmps20
    go_wp2_with fail
    go_ret
    exact ⟨by rw [HE.out]; rfl, rfl⟩
end Go.Proofs.Ytneablcgcdmgpaa
