/-
  What routers say of themselves: parameters that are read, one behind the other. Under: what was said stands in memory; the bytes read elsewhere.
-/
import Derived.Test.YtbmbpcibihddaaaDoorOpI
namespace Go.Proofs.YtbmbpcibihddaaaDoor
open Go.ChangeShapes Go.WideShapes Go.ChangeAt Go.RowKit

theorem parS_any {w : World} {sb cap : Nat} {o : OV} {A : Option Addr} {d : List UInt8} {F : Nat → Prop} (hS : SaidIs w sb o) (code : Int) (hd : d.length ≤ 1000000) (_ : d.length ≤ cap) (hr : Reads w F A (d.map vb)) (_ : ∀ b, F b → ¬ b = sb) :
    Calls Tryd.prog 37 #[.pointer (some ⟨sb, 0, none⟩), .int .i64 code, .slice A d.length cap] w (TakeEnd w sb (parS o code d)) := by
  unfold parS
  by_cases h2 : code = 2
  · subst h2
    have HC := Lib.hid (caps_any (cap := cap) hS hd hr)
    rw [if_pos rfl]
    generalize eachL capS o d = R at *
    clear hr hS
    go_enter Tryd.func37, Tryd.ntmps37
    go_wp2_with fail
    cases R with
    | inl s =>
      refine (take_no HC.out rfl).mono ?_
      rintro e w' ⟨rfl, h0, ho⟩
      go_wp2_with fail
      go_ret
      exact ⟨ho, fun s' hs => by cases hs; exact ⟨rfl, h0⟩, fun o' h => by cases h⟩
    | inr o1 =>
      refine (take_yes HC.out rfl).mono ?_
      rintro e w' ⟨rfl, hs, ho⟩
      go_wp2_with fail
      go_ret
      exact ⟨ho, fun s' hs => (by cases hs), fun o' h => by cases h; exact ⟨rfl, hs⟩⟩
  · rw [if_neg h2]
    go_enter Tryd.func37, Tryd.ntmps37
    go_wp2_with fail
    go_ret
    exact ⟨Only.refl _ _, fun s' hs => by cases hs; exact ⟨rfl, by omega⟩, fun o' h => by cases h⟩

set_option maxRecDepth 10000 in
set_option maxHeartbeats 8000000 in
theorem pars_any {w : World} {sb cap : Nat} {o : OV} {A : Option Addr} {d : List UInt8} {F : Nat → Prop} (hS : SaidIs w sb o) (hd : d.length ≤ 1000000) (hr : Reads w F A (d.map vb)) :
    Calls Tryd.prog 36 #[.slice A d.length cap, .func (.func 37) #[.pointer (some ⟨sb, 0, none⟩)] #[]] w (TakeEnd w sb (eachL parS o d)) := by
  have hsl := hS.lt
  have HF := Lib.hid (from_any A cap d F w (by omega) hr)
  have HSD := Lib.hid hS
  have hd0 : d.length ≤ 1000000 := hd
  obtain ⟨R, hR⟩ : ∃ R, eachL parS o d = R := ⟨_, rfl⟩
  have HR := Lib.hid hR
  rw [hR]
  clear hR hS hr
  go_enter Tryd.func36, Tryd.ntmps36
  go_wp2_with fail
  refine HF.out.mono ?_
  rintro e w1 ⟨g, G, rfl, hrd, hg, hG, hb⟩
  have H0 := Lib.hid (show RD w1 G 99 g d false ∧ SaidIs w1 sb o ∧ Only (· = sb) w w1 from ⟨hrd, Blk.below HSD.out hb hsl, Only.of_below hb⟩)
  have hgs : ¬ g = sb := by omega
  have HG := Lib.hid fun k (hk : G k) => (show ¬ k = sb from by have := hG k hk; omega)
  clear hrd hb HF HSD hG
  go_wp2_with fail
  go_loopg [] d.length (fun n wr => ∃ (rest : List UInt8) (x : OV), rest.length ≤ n ∧ rest.length ≤ d.length ∧ RD wr G 99 g rest false ∧ SaidIs wr sb x ∧ Only (· = sb) w wr ∧ eachL parS x rest = R)
  case atStart => exact ⟨d, o, Nat.le_refl _, Nat.le_refl _, H0.out.1, H0.out.2.1, H0.out.2.2, HR.out⟩
  case round =>
    obtain ⟨rest, x, hrn, hrl, hrd, hsd, hon, hx⟩ := hrel
    have HON := Lib.hid hon
    have HX := Lib.hid hx
    have HSD := Lib.hid hsd
    have hsw := hsd.lt
    have hgw := hrd.blt
    clear H0 HR hx hsd hon
    match rest, hrd, hrn, hrl, HX with
    | [], hrd, _, _, HX =>
      have HL := Lib.hid (left_any hrd)
      have hX := HX.out
      rw [eachL_nil] at hX
      clear hrd HX
      go_wp2_with fail
      refine HL.out.mono ?_
      rintro e w' ⟨rfl, rfl⟩
      go_wp2_with fail
      go_ret
      exact ⟨HON.out, fun s hs => (by rw [← hX] at hs; cases hs), fun o' ho => by rw [← hX] at ho; cases ho; exact ⟨rfl, HSD.out⟩⟩
    | [c], hrd, _, _, HX =>
      have HL := Lib.hid (left_any hrd)
      have HN := Lib.hid (num_ok hrd 1 (by omega) (by omega) (by simp) (by simp))
      have hX := HX.out
      rw [eachL_one] at hX
      simp only [List.take_succ_cons, List.take_zero, ofBe_one, List.drop_succ_cons, List.drop_zero] at HN
      have hXH := Lib.hid hX
      clear hrd HX hX
      have hpos : 0 < leftN [c] false := by simp [leftN]
      generalize leftN [c] false = lf at *
      go_wp2_with fail
      refine HL.out.mono ?_
      rintro e w' ⟨rfl, rfl⟩
      go_wp2_with fail
      refine HN.out.mono ?_
      rintro e w3 ⟨rfl, hrd3, ho3⟩
      have HN4 := Lib.hid (num_no hrd3 1 (by rfl))
      have hs3 := Lib.hid (Blk.only HSD.out ho3 (fun e => hgs e.symm))
      have HO3 := Lib.hid ho3
      clear hrd3 ho3 HL HN
      go_wp2_with fail
      refine HN4.out.mono ?_
      rintro e w4 ⟨rfl, hrd4, ho4⟩
      have HN5 := Lib.hid (bytes_no hrd4 0 (by rfl))
      have hs4 := Lib.hid (Blk.only hs3.out ho4 (fun e => hgs e.symm))
      have HO4 := Lib.hid ho4
      clear hrd4 ho4 HN4 hs3
      go_wp2_with fail
      refine HN5.out.mono ?_
      rintro e w5 ⟨rfl, hrd5, ho5⟩
      have hs5 := Blk.only hs4.out ho5 (fun e => hgs e.symm)
      have HT := Lib.hid (parS_any (A := none) (cap := 0) (F := fun _ => False) hs5 (c.toNat : Int) (d := []) (by simp) (by simp) Reads.nil (fun _ h _ => h))
      have HO5 := Lib.hid ho5
      have HRD5 := Lib.hid hrd5
      have hw5 := hs5.lt
      have hw4 : sb < w4.heap.size := hs4.out.lt
      clear hrd5 ho5 hs5 HN5
      cases hst : parS x c.toNat [] with
      | inl s =>
        have HTN := Lib.hid (take_no HT.out hst)
        have HXX := Lib.hid (show Sum.inl s = R from by have := hXH.out; rw [hst] at this; exact this)
        clear HT hst hXH
        go_wp2_with fail
        refine HTN.out.mono ?_
        rintro e w6 ⟨rfl, h0, ho6⟩
        have HRD6 := Lib.hid (HRD5.out.only ho6 (fun e => hgs e) (fun k hk => HG.out k hk))
        have HBD := Lib.hid (bad_any HRD6.out)
        have HO6 := Lib.hid (show Only (· = sb) w w6 from by
          have a := HON.out
          have h3 : Only (fun k => k = sb) w w3 := a.trans HO3.out (fun i hi e => by subst e; omega)
          have h4 : Only (fun k => k = sb) w w4 := h3.trans HO4.out (fun i hi e => by subst e; omega)
          have h5 : Only (fun k => k = sb) w w5 := h4.trans HO5.out (fun i hi e => by subst e; omega)
          exact h5.trans ho6 (fun i _ e => e))
        clear ho6 HTN
        by_cases hs0 : 0 < s
        · go_wp2_with fail
          go_ret
          exact ⟨HO6.out, fun s' hs' => by rw [← HXX.out] at hs'; cases hs'; exact ⟨rfl, h0⟩, fun o' ho => by rw [← HXX.out] at ho; cases ho⟩
        · obtain rfl : s = 0 := by omega
          go_wp2_with (go_at_call 51; refine (HBD.out).mono ?_; rintro e w' ⟨rfl, rfl⟩)
          go_ret
          exact ⟨HO6.out, fun s' hs' => by rw [← HXX.out] at hs'; cases hs'; exact ⟨rfl, h0⟩, fun o' ho => by rw [← HXX.out] at ho; cases ho⟩
      | inr o' =>
        have HTN := Lib.hid (take_yes HT.out hst)
        have HXX := Lib.hid (show Sum.inl 0 = R from by have := hXH.out; rw [hst] at this; exact this)
        clear HT hst hXH
        go_wp2_with fail
        refine HTN.out.mono ?_
        rintro e w6 ⟨rfl, hs6, ho6⟩
        have HRD6 := Lib.hid (HRD5.out.only ho6 (fun e => hgs e) (fun k hk => HG.out k hk))
        have HBD := Lib.hid (bad_any HRD6.out)
        have HO6 := Lib.hid (show Only (· = sb) w w6 from by
          have a := HON.out
          have h3 : Only (fun k => k = sb) w w3 := a.trans HO3.out (fun i hi e => by subst e; omega)
          have h4 : Only (fun k => k = sb) w w4 := h3.trans HO4.out (fun i hi e => by subst e; omega)
          have h5 : Only (fun k => k = sb) w w5 := h4.trans HO5.out (fun i hi e => by subst e; omega)
          exact h5.trans ho6 (fun i _ e => e))
        clear ho6 HTN hs6
        go_wp2_with (go_at_call 51; refine (HBD.out).mono ?_; rintro e w' ⟨rfl, rfl⟩)
        go_ret
        exact ⟨HO6.out, fun s' hs' => by rw [← HXX.out] at hs'; cases hs'; exact ⟨rfl, by omega⟩, fun o' ho => by rw [← HXX.out] at ho; cases ho⟩
    | c :: k :: r, hrd, hrn, hrl, HX =>
      have HL := Lib.hid (left_any hrd)
      have HN := Lib.hid (num_ok hrd 1 (by omega) (by omega) (by simp) (by simp at hrl ⊢; omega))
      simp only [List.take_succ_cons, List.take_zero, ofBe_one, List.drop_succ_cons, List.drop_zero] at HN
      have hlen2 : r.length + 2 ≤ d.length := by simpa using hrl
      have hpos : (0 : Int) < (leftN (c :: k :: r) false : Nat) := by simp [leftN]; omega
      have hrn2 : r.length + 2 ≤ gk := by simpa using hrn
      clear hrd hrn hrl
      generalize leftN (c :: k :: r) false = lf at *
      go_wp2_with fail
      refine HL.out.mono ?_
      rintro e w' ⟨rfl, rfl⟩
      go_wp2_with fail
      refine HN.out.mono ?_
      rintro e w3 ⟨rfl, hrd3, ho3⟩
      have HN4 := Lib.hid (num_ok hrd3 1 (by omega) (by omega) (by simp) (by simp; omega))
      simp only [List.take_succ_cons, List.take_zero, ofBe_one, List.drop_succ_cons, List.drop_zero] at HN4
      have hs3 := Lib.hid (Blk.only HSD.out ho3 (fun e => hgs e.symm))
      have HO3 := Lib.hid ho3
      clear hrd3 ho3 HL HN
      go_wp2_with fail
      refine HN4.out.mono ?_
      rintro e w4 ⟨rfl, hrd4, ho4⟩
      have hs4 := Lib.hid (Blk.only hs3.out ho4 (fun e => hgs e.symm))
      have HO4 := Lib.hid ho4
      by_cases hkr : k.toNat ≤ r.length
      · have HN5 := Lib.hid (bytes_ok hrd4 k.toNat hkr (by omega))
        clear hrd4 ho4 HN4 hs3
        go_wp2_with fail
        refine HN5.out.mono ?_
        rintro e w5 ⟨v5, rfl, own5, hrd5, ho5⟩
        have hlT : (r.take k.toNat).length = k.toNat := by simp; omega
        obtain ⟨A5, c5, hv5, hlc5, _, _, rd5⟩ := own_reads own5
        subst hv5
        have hs5 := Blk.only hs4.out ho5 (fun e => hgs e.symm)
        have hw4 : sb < w4.heap.size := hs4.out.lt
        have hgo5 := ho5.size
        have HT := parS_any (cap := c5) hs5 (c.toNat : Int) (d := r.take k.toNat) (by omega) (by omega) (rd5.mono (G := (fun b => w4.heap.size ≤ b)) (fun _ _ h => h.1)) (fun b hb e => by omega)
        rw [hlT] at HT
        have HT := Lib.hid HT
        have HO5 := Lib.hid ho5
        have HRD5 := Lib.hid hrd5
        have hw5 := hs5.lt
        clear own5 rd5 hrd5 ho5 hs5 HN5 hlT
        cases hst : parS x c.toNat (r.take k.toNat) with
        | inl s =>
          have hX := HX.out
          rw [eachL_no _ _ _ _ _ hkr hst] at hX
          have HXX := Lib.hid hX
          have HTN := Lib.hid (take_no HT.out hst)
          clear hX HX HT hst
          go_wp2_with fail
          refine HTN.out.mono ?_
          rintro e w6 ⟨rfl, h0, ho6⟩
          have HRD6 := Lib.hid (HRD5.out.only ho6 (fun e => hgs e) (fun k hk => HG.out k hk))
          have HBD := Lib.hid (bad_any HRD6.out)
          have HO6 := Lib.hid (show Only (· = sb) w w6 from by
            have a := HON.out
            have h3 : Only (fun k => k = sb) w w3 := a.trans HO3.out (fun i hi e => by subst e; omega)
            have h4 : Only (fun k => k = sb) w w4 := h3.trans HO4.out (fun i hi e => by subst e; omega)
            have h5 : Only (fun k => k = sb) w w5 := h4.trans HO5.out (fun i hi e => by subst e; omega)
            exact h5.trans ho6 (fun i _ e => e))
          clear ho6 HTN
          by_cases hs0 : 0 < s
          · go_wp2_with fail
            go_ret
            exact ⟨HO6.out, fun s' hs' => by rw [← HXX.out] at hs'; cases hs'; exact ⟨rfl, h0⟩, fun o' ho => by rw [← HXX.out] at ho; cases ho⟩
          · obtain rfl : s = 0 := by omega
            go_wp2_with (go_at_call 51; refine (HBD.out).mono ?_; rintro e w' ⟨rfl, rfl⟩)
            go_ret
            exact ⟨HO6.out, fun s' hs' => by rw [← HXX.out] at hs'; cases hs'; exact ⟨rfl, h0⟩, fun o' ho => by rw [← HXX.out] at ho; cases ho⟩
        | inr o' =>
          have hX := HX.out
          rw [eachL_yes _ _ _ _ _ hkr hst] at hX
          have HXX := Lib.hid hX
          have HTN := Lib.hid (take_yes HT.out hst)
          clear hX HX HT hst
          go_wp2_with fail
          refine HTN.out.mono ?_
          rintro e w6 ⟨rfl, hs6, ho6⟩
          have HRD6 := Lib.hid (HRD5.out.only ho6 (fun e => hgs e) (fun k hk => HG.out k hk))
          have HBD := Lib.hid (bad_any HRD6.out)
          have HS6 := Lib.hid hs6
          have HO6 := Lib.hid (show Only (· = sb) w w6 from by
            have a := HON.out
            have h3 : Only (fun k => k = sb) w w3 := a.trans HO3.out (fun i hi e => by subst e; omega)
            have h4 : Only (fun k => k = sb) w w4 := h3.trans HO4.out (fun i hi e => by subst e; omega)
            have h5 : Only (fun k => k = sb) w w5 := h4.trans HO5.out (fun i hi e => by subst e; omega)
            exact h5.trans ho6 (fun i _ e => e))
          clear ho6 HTN hs6
          go_wp2_with (go_at_call 51; refine (HBD.out).mono ?_; rintro e w' ⟨rfl, rfl⟩)
          go_roundg (r.drop k.toNat).length
          case measure => simp; omega
          case rel => exact ⟨r.drop k.toNat, o', Nat.le_refl _, by simp; omega, HRD6.out, HS6.out, HO6.out, HXX.out⟩
      · have HN5 := Lib.hid (bytes_no hrd4 k.toNat (by simp [rdOk]; omega))
        clear hrd4 ho4 HN4 hs3
        have hX := HX.out
        rw [eachL_cut _ _ _ _ _ hkr] at hX
        have hXH := Lib.hid hX
        clear HX hX
        go_wp2_with fail
        refine HN5.out.mono ?_
        rintro e w5 ⟨rfl, hrd5, ho5⟩
        have hs5 := Blk.only hs4.out ho5 (fun e => hgs e.symm)
        have HT := Lib.hid (parS_any (A := none) (cap := 0) (F := fun _ => False) hs5 (c.toNat : Int) (d := []) (by simp) (by simp) Reads.nil (fun _ h _ => h))
        have HO5 := Lib.hid ho5
        have HRD5 := Lib.hid hrd5
        have hw5 := hs5.lt
        have hw4 : sb < w4.heap.size := hs4.out.lt
        clear hrd5 ho5 hs5 HN5
        cases hst : parS x c.toNat [] with
        | inl s =>
          have HTN := Lib.hid (take_no HT.out hst)
          have HXX := Lib.hid (show Sum.inl s = R from by have := hXH.out; rw [hst] at this; exact this)
          clear HT hst hXH
          go_wp2_with fail
          refine HTN.out.mono ?_
          rintro e w6 ⟨rfl, h0, ho6⟩
          have HRD6 := Lib.hid (HRD5.out.only ho6 (fun e => hgs e) (fun k hk => HG.out k hk))
          have HBD := Lib.hid (bad_any HRD6.out)
          have HO6 := Lib.hid (show Only (· = sb) w w6 from by
            have a := HON.out
            have h3 : Only (fun k => k = sb) w w3 := a.trans HO3.out (fun i hi e => by subst e; omega)
            have h4 : Only (fun k => k = sb) w w4 := h3.trans HO4.out (fun i hi e => by subst e; omega)
            have h5 : Only (fun k => k = sb) w w5 := h4.trans HO5.out (fun i hi e => by subst e; omega)
            exact h5.trans ho6 (fun i _ e => e))
          clear ho6 HTN
          by_cases hs0 : 0 < s
          · go_wp2_with fail
            go_ret
            exact ⟨HO6.out, fun s' hs' => by rw [← HXX.out] at hs'; cases hs'; exact ⟨rfl, h0⟩, fun o' ho => by rw [← HXX.out] at ho; cases ho⟩
          · obtain rfl : s = 0 := by omega
            go_wp2_with (go_at_call 51; refine (HBD.out).mono ?_; rintro e w' ⟨rfl, rfl⟩)
            go_ret
            exact ⟨HO6.out, fun s' hs' => by rw [← HXX.out] at hs'; cases hs'; exact ⟨rfl, h0⟩, fun o' ho => by rw [← HXX.out] at ho; cases ho⟩
        | inr o' =>
          have HTN := Lib.hid (take_yes HT.out hst)
          have HXX := Lib.hid (show Sum.inl 0 = R from by have := hXH.out; rw [hst] at this; exact this)
          clear HT hst hXH
          go_wp2_with fail
          refine HTN.out.mono ?_
          rintro e w6 ⟨rfl, hs6, ho6⟩
          have HRD6 := Lib.hid (HRD5.out.only ho6 (fun e => hgs e) (fun k hk => HG.out k hk))
          have HBD := Lib.hid (bad_any HRD6.out)
          have HO6 := Lib.hid (show Only (· = sb) w w6 from by
            have a := HON.out
            have h3 : Only (fun k => k = sb) w w3 := a.trans HO3.out (fun i hi e => by subst e; omega)
            have h4 : Only (fun k => k = sb) w w4 := h3.trans HO4.out (fun i hi e => by subst e; omega)
            have h5 : Only (fun k => k = sb) w w5 := h4.trans HO5.out (fun i hi e => by subst e; omega)
            exact h5.trans ho6 (fun i _ e => e))
          clear ho6 HTN hs6
          go_wp2_with (go_at_call 51; refine (HBD.out).mono ?_; rintro e w' ⟨rfl, rfl⟩)
          go_ret
          exact ⟨HO6.out, fun s' hs' => by rw [← HXX.out] at hs'; cases hs'; exact ⟨rfl, by omega⟩, fun o' ho => by rw [← HXX.out] at ho; cases ho⟩
end Go.Proofs.YtbmbpcibihddaaaDoor
