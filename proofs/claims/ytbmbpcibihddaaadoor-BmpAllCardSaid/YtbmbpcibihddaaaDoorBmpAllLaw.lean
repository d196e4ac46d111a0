/-
  BmpAll, proved: for every argument that reads as data the statement's function returns true and leaves its arguments as they were. No condition.
-/
import Derived.Test.YtbmbpcibihddaaaDoorRows
import Derived.Test.YtbmbpcibihddaaaDoorTie
import Derived.Test.YtbmbpcibihddaaaDoorCards
import Derived.LaidMore
import Derived.Stop.Joined
import Derived.SevenTiedAt
import Derived.Test.YtbmbpcibihddaaaDoorOpen
import Derived.Test.YtbmbpcibihddaaaDoorBmpLE
import Derived.Test.YtbmbpcibihddaaaDoorLeast
namespace Go.Proofs.YtbmbpcibihddaaaDoor.bmpAllLaw
open Go.ChangeShapes Go.WideShapes Go.ChangeAt Go.RowKit

theorem own : ownKnob Tryd.prog.godebug = none := by kernel_rfl
theorem laidOut : laidOutB Tryd.prog = true := by kernel_rfl

theorem door_met (os : Os) (args : Array Value) : laidMetH Tryd.prog Rows.bmpAllRow.laid ((World.doorLaid Tryd.prog 400 os).forCall (fun _ _ => 0) ⟨#[], args, []⟩).memory :=
  laidMetH_of_parts3 (fuel := 8) (laidMet_of_run' 8 (by kernel_rfl) (by kernel_rfl)) (by kernel_rfl) (by kernel_rfl)

set_option maxRecDepth 100000 in
set_option maxHeartbeats 4000000 in
theorem lifted (os : Os) (started : os.Started) (H : Type) (enc : TypeId × Value → H) :
    ReturnsInHanded {} Tryd.checked os 6 .any (fun w args => (Rows.bmpAllSpec.pre enc Tryd.prog Tryd.f6 [] false w args ∧ laidMetH Tryd.prog Rows.bmpAllRow.laid w) ∧ sizedMet enc Tryd.prog Tryd.f6 (OpenSpec.ofChange Rows.bmpAllSpec) false w args) (Rows.bmpAllSpec.post enc Tryd.prog Tryd.f6 false true false false) := by
  refine returnsInHanded_of_change_and (C := Tryd.checked) (X := fun w _ => laidMetH Tryd.prog Rows.bmpAllRow.laid w) (fun _ _ _ hh h => h.of_heap hh) own started (by kernel_rfl) Tryd.func6
    (ChangeSpec.witness_shaped (enc := enc) (C := Tryd.checked) (os := os) (X := fun w _ => laidMetH Tryd.prog Rows.bmpAllRow.laid w) false (World.doorLaid Tryd.prog 400 os) #[.slice none 0 0] 8 rfl (World.shaped_of_RefB (by kernel_rfl) (by kernel_rfl)) (by kernel_rfl) (by kernel_rfl) (by kernel_rfl) (door_met os _)) ?_
  intro W base args ds gs before hval0 hW _ hsz0 hL _
  have hval : ∀ (j : Nat) t v, Tryd.f6.params[j]? = some t → args[j]? = some v → Value.okWide Tryd.prog W .any base t v := hval0
  have hW' := hW
  obtain ⟨p, q, hA0, hV, rfl, hfz, hnd⟩ := hW
  have hA : DataW.TrodAll enc Tryd.prog W 0 (fun _ => true) true Tryd.f6.params.toList args.toList ds p := hA0
  rw [Tryd.params6] at hA hval
  obtain ⟨v0, vs0, d0, ds0, p0, q0, hargs, rfl, rfl, h0, r0⟩ := trodAll_cons hA
  obtain ⟨rfl, rfl, rfl⟩ := trodAll_nil r0
  obtain rfl : args = #[v0] := by cases args; simpa using hargs
  obtain ⟨rfl, rfl⟩ := trodVars_none hV
  obtain ⟨A0_b, len_b, c0_b, rfl⟩ := okWide_slice Tryd.underlying25 (hval 0 25 v0 rfl rfl)
  obtain ⟨fuel_b, hf_b⟩ := h0
  obtain ⟨A_b, cap_b, l_b, hcs_b, hl_b, hm_b, hn_b, hr_b⟩ := open_bytes Tryd.underlying25 Tryd.underlying5 (by kernel_rfl) hf_b
  simp [Value.cells] at hcs_b
  obtain ⟨rfl, rfl, rfl⟩ := hcs_b
  unfold maxLen at hm_b
  refine (ball_walk _ _ l_b W hl_b hr_b (least_laid W hL) (by omega)).mono fun e W' ⟨he, bel⟩ => ⟨_, he, ?_⟩
  exact law_post laidOut (by rw [Tryd.params6]; exact of_decide_eq_true (by kernel_rfl)) rfl Tryd.underlying4 rfl rfl hW' bel

theorem over : Rows.bmpAllRow.holds Tryd.pinned (OpenSpec.ofChange Rows.bmpAllSpec) :=
  OpenClaim.holds_of_wide 6 Tryd.f6 rfl rfl rfl rfl rfl rfl rfl ⟨rfl, rfl, rfl, rfl, rfl⟩ rfl rfl rfl rfl rfl (by kernel_rfl) Tryd.func6 (by kernel_rfl)
    (of_decide_eq_true (by kernel_rfl)) (by unfold Func.isWrapper; first | (rw [if_pos (by decide +kernel)]; kernel_rfl) | (rw [if_neg (by decide +kernel)]; exact ⟨rfl, rfl⟩))
    (fun os started H enc _ => lifted os started H enc)

theorem proved : Rows.BmpAllCardSaid :=
  Claim7.holds_tied_plain_at .later [] [.data] true (true, "218adec39979767a2a079cfe7b17f94a612684b8c32823781d88ae07330bf18f") false
    over (fun _ h => by cases h) (by kernel_rfl) (fun _ h => by cases h) bmpAll_row_tie rfl ⟨rfl, rfl⟩ (by kernel_rfl) rfl
    (fun f fn hf hfn => by
      obtain rfl : f = 6 := Option.some.inj ((show Tryd.prog.funcNamed "bypath/bypathlaw36.BmpAll" = some 6 by kernel_rfl).symm.trans hf) |>.symm
      obtain rfl : fn = Tryd.f6 := (Option.some.inj (Tryd.func6.symm.trans hfn)).symm
      exact ⟨by kernel_rfl, fun j t ht => by
        rw [Tryd.params6] at ht
        have hm : t ∈ [25] := by
          have := List.mem_of_getElem? (l := [25]) (i := j) (by simpa using ht)
          exact this
        have hall : ∀ t ∈ [25], Tryd.prog.wantsStandIn t = false := by
          intro t ht
          simp only [List.mem_cons, List.not_mem_nil, or_false] at ht
          rcases ht with rfl
          all_goals kernel_rfl
        exact hall t hm⟩)
    (by kernel_rfl)
end Go.Proofs.YtbmbpcibihddaaaDoor.bmpAllLaw
