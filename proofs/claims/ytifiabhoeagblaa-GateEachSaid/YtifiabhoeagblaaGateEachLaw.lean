/-
  GateEach, proved: for every argument that reads as data the statement's function returns true and leaves its arguments as they were. No condition.
-/
import Derived.Test.YtifiabhoeagblaaRows
import Derived.Test.YtifiabhoeagblaaOpen
import Derived.Test.YtifiabhoeagblaaConfOpen
import Derived.Test.YtifiabhoeagblaaGateEach
namespace Go.Proofs.Ytifiabhoeagblaa.gateEachLaw
open Go.ChangeShapes Go.WideShapes Go.ChangeAt Go.RowKit

theorem own : ownKnob Try.prog.godebug = none := by kernel_rfl
theorem laidOut : laidOutB Try.prog = true := by kernel_rfl

set_option maxRecDepth 100000 in
theorem lifted (os : Os) (started : os.Started) (H : Type) (enc : TypeId × Value → H) :
    ReturnsInHanded {} Try.checked os 5 .any (Rows.gateEachSpec.pre6 enc Try.prog Try.f5 Rows.gateEachRow.domain false) (Rows.gateEachSpec.post enc Try.prog Try.f5 false true false false) := by
  refine returnsInHanded_of_change (C := Try.checked) own started (by kernel_rfl) Try.func5
    (ChangeSpec.witness6 (enc := enc) (C := Try.checked) false ⟨#[], #[.agg #[.int .i64 0, .int .u32 0, .int .i64 0, .int .i64 0, .int .i64 0, .int .i64 0, .int .i64 0, .slice none 0 0, .int .i64 0, .int .i64 0, .int .i64 0, .int .i64 0, .int .i64 0, .int .i64 0, .int .i64 0, .int .i64 0, .int .i64 0, .slice none 0 0, .int .i64 0, .int .i64 0], .agg #[.slice none 0 0, .slice none 0 0, .slice none 0 0, .int .i64 0], .int .i64 0, .int .i64 0], []⟩ 8 (by kernel_rfl) (by kernel_rfl) (by kernel_rfl) (by kernel_rfl)) ?_
  intro W base args ds gs before hval0 hW hcnd _
  have hval : ∀ (j : Nat) t v, Try.f5.params[j]? = some t → args[j]? = some v → Value.okWide Try.prog W .any base t v := hval0
  have hW' := hW
  obtain ⟨p, q, hA0, hV, rfl, hfz, hnd⟩ := hW
  have hA : DataW.TrodAll enc Try.prog W 0 (fun _ => true) true Try.f5.params.toList args.toList ds p := hA0
  rw [Try.params5] at hA hval
  obtain ⟨v0, vs0, d0, ds0, p0, q0, hargs, rfl, rfl, h0, r0⟩ := trodAll_cons hA
  obtain ⟨v1, vs1, d1, ds1, p1, q1, rfl, rfl, rfl, h1, r1⟩ := trodAll_cons r0
  obtain ⟨v2, vs2, d2, ds2, p2, q2, rfl, rfl, rfl, h2, r2⟩ := trodAll_cons r1
  obtain ⟨v3, vs3, d3, ds3, p3, q3, rfl, rfl, rfl, h3, r3⟩ := trodAll_cons r2
  obtain ⟨rfl, rfl, rfl⟩ := trodAll_nil r3
  obtain rfl : args = #[v0, v1, v2, v3] := by cases args; simp_all
  obtain ⟨rfl, rfl⟩ := trodVars_none hV
  obtain ⟨cs_c, rfl, _⟩ := okWide_struct Try.underlying38 (hval 0 38 v0 rfl rfl)
  obtain ⟨fuel_c, hf_c⟩ := h0
  obtain ⟨AS, ID, H, R, routers, counts, carries, high, low, moves, cycle, stale, warm, expire, pref, longer, routes, queue, A, AD, c, cd, l, deny, hcs_c, hl, hdl, hr, hd⟩ := open_conf hf_c
  obtain rfl : cs_c = #[.int .i64 AS, .int .u32 ID, .int .i64 H, .int .i64 R, .int .i64 routers, .int .i64 counts, .int .i64 carries, .slice A l.length c, .int .i64 high, .int .i64 low, .int .i64 moves, .int .i64 cycle, .int .i64 stale, .int .i64 warm, .int .i64 expire, .int .i64 pref, .int .i64 longer, .slice AD deny.length cd, .int .i64 routes, .int .i64 queue] := Array.toList_inj.1 (by simpa [Value.cells] using hcs_c)
  unfold maxLen at hl hdl
  obtain ⟨cs_i, rfl, _⟩ := okWide_struct Try.underlying41 (hval 1 41 v1 rfl rfl)
  obtain ⟨fuel_i, hf_i⟩ := h1
  obtain ⟨A0, A1, A2, k0, k1, k2, up, cts, ks, refused, hcs_i, hl0, hl1, hl2, hr0, hr1, hr2⟩ := open_inputs hf_i
  obtain rfl : cs_i = #[.slice A0 up.length k0, .slice A1 cts.length k1, .slice A2 ks.length k2, .int .i64 refused] := Array.toList_inj.1 (by simpa [Value.cells] using hcs_i)
  unfold maxLen at hl0 hl1 hl2
  obtain ⟨now, rfl, _, _, wf_now⟩ := open_int Try.underlying3 (hval 2 3 v2 rfl rfl) h2
  obtain ⟨at_, rfl, _, _, wf_at_⟩ := open_int Try.underlying3 (hval 3 3 v3 rfl rfl) h3
  refine (gate_each_walk AS ID H R routers counts carries high low moves cycle stale warm expire pref longer routes queue A AD c cd l deny A0 A1 A2 k0 k1 k2 up cts ks refused now at_ _ W (i64_hi wf_now) (by omega) (by omega) (by omega) (by omega) (by omega) hr hd hr0 hr1 hr2).mono fun e W' ⟨he, bel⟩ => ⟨_, he, ?_⟩
  exact law_post laidOut (by rw [Try.params5]; exact of_decide_eq_true (by kernel_rfl)) rfl Try.underlying4 rfl rfl hW' bel

theorem over : Rows.gateEachRow.holds Try.pinned (OpenSpec.ofChange Rows.gateEachSpec) :=
  OpenClaim.holds_of_wide 5 Try.f5 rfl rfl rfl rfl rfl rfl rfl ⟨rfl, rfl, rfl, rfl, rfl⟩ rfl rfl rfl rfl rfl (by kernel_rfl) Try.func5 (by kernel_rfl)
    (of_decide_eq_true (by kernel_rfl)) (by unfold Func.isWrapper; first | (rw [if_pos (by decide +kernel)]; kernel_rfl) | (rw [if_neg (by decide +kernel)]; exact ⟨rfl, rfl⟩))
    (fun os started H enc _ => lifted os started H enc)

theorem proved : Rows.GateEachSaid := over
end Go.Proofs.Ytifiabhoeagblaa.gateEachLaw
