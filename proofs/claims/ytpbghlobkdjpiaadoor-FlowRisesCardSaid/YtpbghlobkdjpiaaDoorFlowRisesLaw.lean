/-
  FlowRises, proved: for every argument that reads as data the statement's function returns true and leaves its arguments as they were. No condition.
-/
import Derived.Test.YtpbghlobkdjpiaaDoorRows
import Derived.Test.YtpbghlobkdjpiaaDoorTie
import Derived.Test.YtpbghlobkdjpiaaDoorCards
import Derived.LaidMore
import Derived.Stop.Joined
import Derived.SevenTiedAt
import Derived.Test.YtpbghlobkdjpiaaDoorOpen
import Derived.Test.YtpbghlobkdjpiaaDoorFlowRises
import Derived.Test.YtpbghlobkdjpiaaDoorFlowOpen
namespace Go.Proofs.YtpbghlobkdjpiaaDoor.flowRisesLaw
open Go.ChangeShapes Go.WideShapes Go.ChangeAt Go.RowKit

theorem own : ownKnob Tryd.prog.godebug = none := by kernel_rfl
theorem laidOut : laidOutB Tryd.prog = true := by kernel_rfl

theorem door_met (os : Os) (args : Array Value) : laidMetH Tryd.prog Rows.flowRisesRow.laid ((World.doorLaid Tryd.prog 400 os).forCall (fun _ _ => 0) ⟨#[], args, []⟩).memory :=
  laidMetH_of_parts3 (fuel := 8) (laidMet_of_run' 8 (by kernel_rfl) (by kernel_rfl)) (by kernel_rfl) (by kernel_rfl)

set_option maxRecDepth 100000 in
set_option maxHeartbeats 4000000 in
theorem lifted (os : Os) (started : os.Started) (H : Type) (enc : TypeId × Value → H) :
    ReturnsInHanded {} Tryd.checked os 5 .any (fun w args => (Rows.flowRisesSpec.pre enc Tryd.prog Tryd.f5 [] false w args ∧ laidMetH Tryd.prog Rows.flowRisesRow.laid w) ∧ sizedMet enc Tryd.prog Tryd.f5 (OpenSpec.ofChange Rows.flowRisesSpec) false w args) (Rows.flowRisesSpec.post enc Tryd.prog Tryd.f5 false true false false) := by
  refine returnsInHanded_of_change_and (C := Tryd.checked) (X := fun w _ => laidMetH Tryd.prog Rows.flowRisesRow.laid w) (fun _ _ _ hh h => h.of_heap hh) own started (by kernel_rfl) Tryd.func5
    (ChangeSpec.witness_shaped (enc := enc) (C := Tryd.checked) (os := os) (X := fun w _ => laidMetH Tryd.prog Rows.flowRisesRow.laid w) false (World.doorLaid Tryd.prog 400 os) #[.slice none 0 0, .slice none 0 0, .agg #[.int .u32 0, .int .i64 0, .int .i64 0, .int .i64 0, .int .u32 0, .int .i64 0, .int .i64 0, .int .i64 0, .slice none 0 0, .int .u32 0, .int .i64 0, .int .i64 0, .slice none 0 0, .int .i64 0, .slice none 0 0, .int .i64 0], .int .i64 0, .int .i64 0] 8 rfl (World.shaped_of_RefB (by kernel_rfl) (by kernel_rfl)) (by kernel_rfl) (by kernel_rfl) (by kernel_rfl) (door_met os _)) ?_
  intro W base args ds gs before hval0 hW _ hsz0 hL _
  have hval : ∀ (j : Nat) t v, Tryd.f5.params[j]? = some t → args[j]? = some v → Value.okWide Tryd.prog W .any base t v := hval0
  have hW' := hW
  obtain ⟨p, q, hA0, hV, rfl, hfz, hnd⟩ := hW
  have hA : DataW.TrodAll enc Tryd.prog W 0 (fun _ => true) true Tryd.f5.params.toList args.toList ds p := hA0
  rw [Tryd.params5] at hA hval
  obtain ⟨v0, vs0, d0, ds0, p0, q0, hargs, rfl, rfl, h0, r0⟩ := trodAll_cons hA
  obtain ⟨v1, vs1, d1, ds1, p1, q1, rfl, rfl, rfl, h1, r1⟩ := trodAll_cons r0
  obtain ⟨v2, vs2, d2, ds2, p2, q2, rfl, rfl, rfl, h2, r2⟩ := trodAll_cons r1
  obtain ⟨v3, vs3, d3, ds3, p3, q3, rfl, rfl, rfl, h3, r3⟩ := trodAll_cons r2
  obtain ⟨v4, vs4, d4, ds4, p4, q4, rfl, rfl, rfl, h4, r4⟩ := trodAll_cons r3
  obtain ⟨rfl, rfl, rfl⟩ := trodAll_nil r4
  obtain rfl : args = #[v0, v1, v2, v3, v4] := by cases args; simp_all
  obtain ⟨rfl, rfl⟩ := trodVars_none hV
  obtain ⟨A0_l, len_l, c0_l, rfl⟩ := okWide_slice Tryd.underlying22 (hval 0 22 v0 rfl rfl)
  obtain ⟨fuel_l, hf_l⟩ := h0
  obtain ⟨A_l, cap_l, l_l, hcs_l, hin_l⟩ := open_rooms hf_l
  simp [Value.cells] at hcs_l
  obtain ⟨rfl, rfl, rfl⟩ := hcs_l
  obtain ⟨A0_w, len_w, c0_w, rfl⟩ := okWide_slice Tryd.underlying23 (hval 1 23 v1 rfl rfl)
  obtain ⟨fuel_w, hf_w⟩ := h1
  have hz_w : len_w * 176 ≤ 140737488351232 := by
    rw [Tryd.params5] at hsz0
    simp only [DataW.weightsEach, List.cons_append, List.all_append, Bool.and_eq_true] at hsz0
    have h1 := slice_reach (x := (d1, p1)) Tryd.underlying23 (by simpa [Value.cells] using hf_w) hsz0.2.1
    rwa [show Tryd.prog.bytesOf 55 = 176 by kernel_rfl] at h1
  obtain ⟨A_w, cap_w, l_w, hcs_w, hin_w⟩ := open_wants hf_w
  simp [Value.cells] at hcs_w
  obtain ⟨rfl, rfl, rfl⟩ := hcs_w
  obtain ⟨cs_more, rfl, _⟩ := okWide_struct Tryd.underlying55 (hval 2 55 v2 rfl rfl)
  obtain ⟨fuel_more, hf_more⟩ := h2
  obtain ⟨more, hcs_more, hok_more, hr_more⟩ := open_want hf_more
  obtain rfl : cs_more = WV.cs more := Array.toList_inj.1 (by simpa [Value.cells] using hcs_more)
  obtain ⟨at_, rfl, _, _, wf_at_⟩ := open_int Tryd.underlying3 (hval 3 3 v3 rfl rfl) h3
  obtain ⟨n, rfl, _, _, wf_n⟩ := open_int Tryd.underlying3 (hval 4 3 v4 rfl rfl) h4
  refine (rises_walk (flow_table W hL) hin_l hin_w more hok_more hr_more hz_w at_ n wf_at_).mono fun e W' ⟨he, bel⟩ => ⟨_, he, ?_⟩
  exact law_post laidOut (by rw [Tryd.params5]; exact of_decide_eq_true (by kernel_rfl)) rfl Tryd.underlying4 rfl rfl hW' bel

theorem over : Rows.flowRisesRow.holds Tryd.pinned (OpenSpec.ofChange Rows.flowRisesSpec) :=
  OpenClaim.holds_of_wide 5 Tryd.f5 rfl rfl rfl rfl rfl rfl rfl ⟨rfl, rfl, rfl, rfl, rfl⟩ rfl rfl rfl rfl rfl (by kernel_rfl) Tryd.func5 (by kernel_rfl)
    (of_decide_eq_true (by kernel_rfl)) (by unfold Func.isWrapper; first | (rw [if_pos (by decide +kernel)]; kernel_rfl) | (rw [if_neg (by decide +kernel)]; exact ⟨rfl, rfl⟩))
    (fun os started H enc _ => lifted os started H enc)

theorem proved : Rows.FlowRisesCardSaid :=
  Claim7.holds_tied_plain_at .later [] [.data, .data] true (true, "a7c690b6bbe64662844314cdbe90d75329742eeab35c011ac631f0d76bad8b0e") false
    over (fun _ h => by cases h) (by kernel_rfl) (fun _ h => by cases h) flowRises_row_tie rfl ⟨rfl, rfl⟩ (by kernel_rfl) rfl
    (fun f fn hf hfn => by
      obtain rfl : f = 5 := Option.some.inj ((show Tryd.prog.funcNamed "bypath/bypathlaw37.FlowRises" = some 5 by kernel_rfl).symm.trans hf) |>.symm
      obtain rfl : fn = Tryd.f5 := (Option.some.inj (Tryd.func5.symm.trans hfn)).symm
      exact ⟨by kernel_rfl, fun j t ht => by
        rw [Tryd.params5] at ht
        have hm : t ∈ [22, 23, 55, 3, 3] := by
          have := List.mem_of_getElem? (l := [22, 23, 55, 3, 3]) (i := j) (by simpa using ht)
          exact this
        have hall : ∀ t ∈ [22, 23, 55, 3, 3], Tryd.prog.wantsStandIn t = false := by
          intro t ht
          simp only [List.mem_cons, List.not_mem_nil, or_false] at ht
          rcases ht with rfl | rfl | rfl | rfl | rfl
          all_goals kernel_rfl
        exact hall t hm⟩)
    (by kernel_rfl)
end Go.Proofs.YtpbghlobkdjpiaaDoor.flowRisesLaw
