/-
  NumReads, proved: for every argument that reads as data the statement's function returns true and leaves its arguments as they were. No condition.
-/
import Derived.Test.YteokhnkipandbaaRows
import Derived.Test.YteokhnkipandbaaOpen
import Derived.Test.YteokhnkipandbaaRdOpsOpen
namespace Go.Proofs.Yteokhnkipandbaa.numReadsLaw
open Go.ChangeShapes Go.WideShapes Go.ChangeAt Go.RowKit

theorem own : ownKnob Try.prog.godebug = none := by kernel_rfl
theorem laidOut : laidOutB Try.prog = true := by kernel_rfl

set_option maxRecDepth 100000 in
theorem lifted (os : Os) (started : os.Started) (H : Type) (enc : TypeId × Value → H) :
    ReturnsInHanded {} Try.checked os 9 .any (Rows.numReadsSpec.pre6 enc Try.prog Try.f9 Rows.numReadsRow.domain false) (Rows.numReadsSpec.post enc Try.prog Try.f9 false true false false) := by
  refine returnsInHanded_of_change (C := Try.checked) own started (by kernel_rfl) Try.func9
    (ChangeSpec.witness6 (enc := enc) (C := Try.checked) false ⟨#[], #[.slice none 0 0, .slice none 0 0], []⟩ 8 (by kernel_rfl) (by kernel_rfl) (by kernel_rfl) (by kernel_rfl)) ?_
  intro W base args ds gs before hval0 hW hcnd _
  have hval : ∀ (j : Nat) t v, Try.f9.params[j]? = some t → args[j]? = some v → Value.okWide Try.prog W .any base t v := hval0
  have hW' := hW
  obtain ⟨p, q, hA0, hV, rfl, hfz, hnd⟩ := hW
  have hA : DataW.TrodAll enc Try.prog W 0 (fun _ => true) true Try.f9.params.toList args.toList ds p := hA0
  rw [Try.params9] at hA hval
  obtain ⟨v0, vs0, d0, ds0, p0, q0, hargs, rfl, rfl, h0, r0⟩ := trodAll_cons hA
  obtain ⟨v1, vs1, d1, ds1, p1, q1, rfl, rfl, rfl, h1, r1⟩ := trodAll_cons r0
  obtain ⟨rfl, rfl, rfl⟩ := trodAll_nil r1
  obtain rfl : args = #[v0, v1] := by cases args; simp_all
  obtain ⟨rfl, rfl⟩ := trodVars_none hV
  obtain ⟨A0_b, len_b, c0_b, rfl⟩ := okWide_slice Try.underlying22 (hval 0 22 v0 rfl rfl)
  obtain ⟨fuel_b, hf_b⟩ := h0
  obtain ⟨A_b, cap_b, l_b, hcs_b, hl_b, hm_b, hn_b, hr_b⟩ := open_bytes Try.underlying22 Try.underlying5 (by kernel_rfl) hf_b
  simp [Value.cells] at hcs_b
  obtain ⟨rfl, rfl, rfl⟩ := hcs_b
  unfold maxLen at hm_b
  obtain ⟨A0_o, len_o, c0_o, rfl⟩ := okWide_slice Try.underlying40 (hval 1 40 v1 rfl rfl)
  obtain ⟨fuel_o, hf_o⟩ := h1
  obtain ⟨A_o, cap_o, l_o, hcs_o, hm_o, hr_o⟩ := open_rdops hf_o
  simp [Value.cells] at hcs_o
  obtain ⟨rfl, rfl, rfl⟩ := hcs_o
  unfold maxLen at hm_o
  refine (num_reads_walk A0_b c0_b l_b A0_o c0_o l_o _ W (by omega) (by omega) hr_b hr_o).mono fun e W' ⟨he, bel⟩ => ⟨_, he, ?_⟩
  exact law_post laidOut (by rw [Try.params9]; exact of_decide_eq_true (by kernel_rfl)) rfl Try.underlying4 rfl rfl hW' bel

theorem over : Rows.numReadsRow.holds Try.pinned (OpenSpec.ofChange Rows.numReadsSpec) :=
  OpenClaim.holds_of_wide 9 Try.f9 rfl rfl rfl rfl rfl rfl rfl ⟨rfl, rfl, rfl, rfl, rfl⟩ rfl rfl rfl rfl rfl (by kernel_rfl) Try.func9 (by kernel_rfl)
    (of_decide_eq_true (by kernel_rfl)) (by unfold Func.isWrapper; first | (rw [if_pos (by decide +kernel)]; kernel_rfl) | (rw [if_neg (by decide +kernel)]; exact ⟨rfl, rfl⟩))
    (fun os started H enc _ => lifted os started H enc)

theorem proved : Rows.NumReadsSaid := over
end Go.Proofs.Yteokhnkipandbaa.numReadsLaw
