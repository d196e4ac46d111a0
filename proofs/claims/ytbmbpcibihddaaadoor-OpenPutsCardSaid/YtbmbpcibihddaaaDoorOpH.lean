/-
  What routers say of themselves: one capability that is read. Under: what was said stands in memory; the data read as bytes elsewhere.
-/
import Derived.Test.YtbmbpcibihddaaaDoorOpG
namespace Go.Proofs.YtbmbpcibihddaaaDoor
open Go.ChangeShapes Go.WideShapes Go.ChangeAt Go.RowKit

/-- a capability read: what is said then; none: it is wrong -/
def capStep (o : OV) (code : Int) (d : List UInt8) : Option OV :=
  if code = 65 then (if d.length = 4 then some ⟨ofBe d, o.hold, o.id, true, o.paths⟩ else none)
  else if code = 69 then (if d.length % 4 = 0 then some (o.withP (pathsL d o.paths)) else none) else some o
section
variable {w : World} {sb cap : Nat} {o : OV} {A : Option Addr} {d : List UInt8} {F : Nat → Prop}
set_option maxHeartbeats 1000000 in
theorem capab_no (code : Int) (hd : d.length ≤ 1000000) (hn : capStep o code d = none) :
    Calls Tryd.prog 65 #[.pointer (some ⟨sb, 0, none⟩), .int .i64 code, .slice A d.length cap] w fun e w' => e = .returned (.int .i64 0) ∧ w = w' := by
  unfold capStep at hn
  by_cases h65 : code = 65
  · subst h65
    have h4 : ¬ (d.length : Int) = 4 := by simp at hn; omega
    clear hn
    go_enter Tryd.func65, Tryd.ntmps65
    go_wp2_with fail
    go_ret
    exact ⟨rfl, rfl⟩
  · rw [if_neg h65] at hn
    by_cases h69 : code = 69
    · subst h69
      have h4 : ¬ (d.length : Int) % 4 = 0 := by simp at hn; omega
      have h4b : ¬ (d.length : Int).tmod 4 = 0 := by rw [Int.tmod_eq_emod_of_nonneg (by omega)]; exact h4
      clear hn
      go_enter Tryd.func65, Tryd.ntmps65
      go_wp2_with fail
      go_ret
      exact ⟨rfl, rfl⟩
    · simp [h69] at hn
set_option maxHeartbeats 1000000 in
theorem capab_yes (hS : SaidIs w sb o) (code : Int) (hd : d.length ≤ 1000000) (hlc : d.length ≤ cap) (hr : Reads w F A (d.map vb)) (hF : ∀ b, F b → ¬ b = sb) {o' : OV} (hn : capStep o code d = some o') :
    Calls Tryd.prog 65 #[.pointer (some ⟨sb, 0, none⟩), .int .i64 code, .slice A d.length cap] w fun e w' => e = .returned (.int .i64 (-1)) ∧ SaidIs w' sb o' ∧ Only (· = sb) w w' := by
  unfold capStep at hn
  by_cases h65 : code = 65
  · subst h65
    obtain ⟨h4, rfl⟩ : d.length = 4 ∧ ⟨ofBe d, o.hold, o.id, true, o.paths⟩ = o' := by
      by_cases h : d.length = 4
      · simp [h] at hn; exact ⟨h, hn⟩
      · simp [h] at hn
    have HG := Lib.hid (get_ok A cap d F w (by omega) (by omega) hr)
    rw [h4] at HG
    obtain ⟨n, hnn⟩ : ∃ n, n = d.length := ⟨_, rfl⟩
    rw [← hnn]
    rw [h4] at hnn
    subst hnn
    obtain ⟨asn, hold, id, four, paths⟩ := o
    have hc0 := Blk.cell hS 0
    have hc3 := Blk.cell hS 3
    have hf0 := Blk.frozen hS 0
    have hf3 := Blk.frozen hS 3
    simp [OV.cells] at hc0 hc3
    have HB := Lib.hid (Blk.set_ (Blk.set_ hS 0 (.int .i64 (ofBe d : Nat))) 3 (.bool true))
    have HO := Lib.hid (((Only.refl (· = sb) w).setCell (p := ⟨sb, 0, none⟩) (fun _ => rfl) (.int .i64 (ofBe d : Nat))).setCell (p := ⟨sb, 3, none⟩) (fun _ => rfl) (.bool true))
    clear hn hr hd
    generalize ofBe d = v at *
    go_enter Tryd.func65, Tryd.ntmps65
    go_wp2_with (go_at_call 62; refine (HG.out).mono ?_; rintro e w' ⟨rfl, rfl⟩)
    go_ret
    exact ⟨rfl, HB.out, HO.out⟩
  · rw [if_neg h65] at hn
    by_cases h69 : code = 69
    · subst h69
      obtain ⟨h4, rfl⟩ : d.length % 4 = 0 ∧ o.withP (pathsL d o.paths) = o' := by
        by_cases h : d.length % 4 = 0
        · simp [h] at hn; exact ⟨h, hn⟩
        · simp [h] at hn
      obtain ⟨m, hm⟩ : ∃ m, d.length = 4 * m := ⟨d.length / 4, by omega⟩
      have HP : Calls Tryd.prog 80 #[.pointer (some ⟨sb, 0, none⟩), .slice A (4 * m) cap] w fun e w' => (∃ v, e = .returned v) ∧ SaidIs w' sb (o.withP (pathsL d o.paths)) ∧ Only (· = sb) w w' := by
        rcases hr with h | ⟨b, off, rfl, hfb, hbl, hc⟩
        · have hd0 : d = [] := by simpa using h
          subst hd0
          obtain rfl : m = 0 := by simp at hm; omega
          have : o.withP (pathsL [] o.paths) = o := rfl
          rw [this]
          exact paths_none hS
        · exact paths_any hS hm (by omega) (by omega) (hF b hfb) hbl hc
      have HPP := Lib.hid HP
      rw [hm]
      have h4c : ((4 * m : Nat) : Int).tmod 4 = 0 := by rw [Int.tmod_eq_emod_of_nonneg (by omega)]; omega
      have h4d : ((4 * m : Nat) : Int) % 4 = 0 := by omega
      have h4e : (4 * (m : Int)).tmod 4 = 0 := by rw [Int.tmod_eq_emod_of_nonneg (by omega)]; omega
      clear hn hr hd HP h4
      go_enter Tryd.func65, Tryd.ntmps65
      go_wp2_with (go_at_call 80; refine (HPP.out).mono ?_; rintro e w' ⟨⟨v, rfl⟩, hs', ho'⟩)
      go_ret
      exact ⟨rfl, hs', ho'⟩
    · rw [if_neg h69] at hn
      injection hn with hn
      subst hn
      have hbb : (code == 65 || code == 69) = false := by simp [h65, h69]
      go_enter Tryd.func65, Tryd.ntmps65
      go_wp2_with fail
      go_ret
      exact ⟨rfl, hS, Only.refl _ _⟩
end
end Go.Proofs.YtbmbpcibihddaaaDoor
