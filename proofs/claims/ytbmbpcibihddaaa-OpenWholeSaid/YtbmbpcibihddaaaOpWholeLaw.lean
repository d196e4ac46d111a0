/-
  OpenWhole, proved: for every argument that reads as data the statement's function returns true and leaves its arguments as they were. No condition.
-/
import Derived.Test.YtbmbpcibihddaaaRows
import Derived.Test.YtbmbpcibihddaaaOpen
import Derived.Test.YtbmbpcibihddaaaOpU
namespace Go.Proofs.Ytbmbpcibihddaaa.openWholeLaw
open Go.ChangeShapes Go.WideShapes Go.ChangeAt Go.RowKit

theorem own : ownKnob Try.prog.godebug = none := by kernel_rfl
theorem laidOut : laidOutB Try.prog = true := by kernel_rfl

set_option maxRecDepth 100000 in
theorem lifted (os : Os) (started : os.Started) (H : Type) (enc : TypeId × Value → H) :
    ReturnsInHanded {} Try.checked os 4 .any (Rows.openWholeSpec.pre6 enc Try.prog Try.f4 Rows.openWholeRow.domain false) (Rows.openWholeSpec.post enc Try.prog Try.f4 false true false false) := by
  refine returnsInHanded_of_change (C := Try.checked) own started (by kernel_rfl) Try.func4
    (ChangeSpec.witness6 (enc := enc) (C := Try.checked) false ⟨#[], #[.slice none 0 0], []⟩ 8 (by kernel_rfl) (by kernel_rfl) (by kernel_rfl) (by kernel_rfl)) ?_
  intro W base args ds gs before hval0 hW hcnd _
  have hval : ∀ (j : Nat) t v, Try.f4.params[j]? = some t → args[j]? = some v → Value.okWide Try.prog W .any base t v := hval0
  have hW' := hW
  obtain ⟨p, q, hA0, hV, rfl, hfz, hnd⟩ := hW
  have hA : DataW.TrodAll enc Try.prog W 0 (fun _ => true) true Try.f4.params.toList args.toList ds p := hA0
  rw [Try.params4] at hA hval
  obtain ⟨v0, vs0, d0, ds0, p0, q0, hargs, rfl, rfl, h0, r0⟩ := trodAll_cons hA
  obtain ⟨rfl, rfl, rfl⟩ := trodAll_nil r0
  obtain rfl : args = #[v0] := by cases args; simp_all
  obtain ⟨rfl, rfl⟩ := trodVars_none hV
  obtain ⟨A0_b, len_b, c0_b, rfl⟩ := okWide_slice Try.underlying25 (hval 0 25 v0 rfl rfl)
  obtain ⟨fuel_b, hf_b⟩ := h0
  obtain ⟨A_b, cap_b, l_b, hcs_b, hl_b, hm_b, hn_b, hr_b⟩ := open_bytes Try.underlying25 Try.underlying5 (by kernel_rfl) hf_b
  simp [Value.cells] at hcs_b
  obtain ⟨rfl, rfl, rfl⟩ := hcs_b
  unfold maxLen at hm_b
  refine (whole_walk _ _ l_b _ W (by omega) hl_b hr_b).mono fun e W' ⟨he, bel⟩ => ⟨_, he, ?_⟩
  exact law_post laidOut (by rw [Try.params4]; exact of_decide_eq_true (by kernel_rfl)) rfl Try.underlying4 rfl rfl hW' bel

theorem over : Rows.openWholeRow.holds Try.pinned (OpenSpec.ofChange Rows.openWholeSpec) :=
  OpenClaim.holds_of_wide 4 Try.f4 rfl rfl rfl rfl rfl rfl rfl ⟨rfl, rfl, rfl, rfl, rfl⟩ rfl rfl rfl rfl rfl (by kernel_rfl) Try.func4 (by kernel_rfl)
    (of_decide_eq_true (by kernel_rfl)) (by unfold Func.isWrapper; first | (rw [if_pos (by decide +kernel)]; kernel_rfl) | (rw [if_neg (by decide +kernel)]; exact ⟨rfl, rfl⟩))
    (fun os started H enc _ => lifted os started H enc)

theorem proved : Rows.OpenWholeSaid := over
end Go.Proofs.Ytbmbpcibihddaaa.openWholeLaw
