/-
  What is monitored, by the document: what is used. No condition. (Printed by program.)
-/
import Derived.Test.YtbmbpcibihddaaaDoorBmpF
namespace Go.Proofs.YtbmbpcibihddaaaDoor
open Go.ChangeShapes Go.WideShapes Go.ChangeAt Go.RowKit

/-- with nothing but what its kind uses, by the document, as a value -/
def MoV.rused (m : MoV) : MoV :=
  if talksB m.kind then ⟨m.kind, 0, 0, 0, 0, 0, 0, none, 0, [], none, 0, [], m.text⟩
  else if m.kind = 0 then ⟨m.kind, m.id, m.addr, m.asn, m.time, 0, 0, none, 0, [], m.cA, m.cc, m.came, []⟩
  else if m.kind = 2 then (if notedB m.reason then ⟨m.kind, m.id, m.addr, m.asn, m.time, m.reason, 0, none, 0, [], m.cA, m.cc, m.came, []⟩ else ⟨m.kind, m.id, m.addr, m.asn, m.time, m.reason, 0, none, 0, [], none, 0, [], []⟩)
  else if m.kind = 3 then ⟨m.kind, m.id, m.addr, m.asn, m.time, 0, m.own, m.sA, m.sc, m.sent, m.cA, m.cc, m.came, []⟩
  else ⟨m.kind, m.id, m.addr, m.asn, m.time, 0, 0, none, 0, [], none, 0, [], []⟩
theorem MoV.rused_d (m : MoV) : m.rused.d = m.d.rused := by
  obtain ⟨kind, id, addr, asn, time, reason, own, sA, sc, sent, cA, cc, came, text⟩ := m
  unfold MoV.rused MD.rused
  by_cases ht : talksB kind = true
  · simp [MoV.d, ht]
  · by_cases h0 : kind = 0
    · subst h0; simp [MoV.d, talksB]
    by_cases h2 : kind = 2
    · subst h2
      by_cases hn : notedB reason = true
      · simp [MoV.d, talksB, hn]
      · simp [MoV.d, talksB, hn]
    · by_cases h3 : kind = 3
      · subst h3; simp [MoV.d, talksB]
      · simp [MoV.d, ht, h0, h2, h3]
theorem MoV.rused_rd {m : MoV} {w : World} {F : Nat → Prop} (h : m.Rd w F) : m.rused.Rd w F := by
  unfold MoV.rused
  split
  · exact ⟨.nil, .nil, by simp, by simp, by simp, by simp, h.tl⟩
  split
  · exact ⟨.nil, h.c, by simp, h.cl, by simp, h.ck, by simp⟩
  split
  · split
    · exact ⟨.nil, h.c, by simp, h.cl, by simp, h.ck, by simp⟩
    · exact ⟨.nil, .nil, by simp, by simp, by simp, by simp, by simp⟩
  split
  · exact ⟨h.s, h.c, h.sl, h.cl, h.sk, h.ck, by simp⟩
  · exact ⟨.nil, .nil, by simp, by simp, by simp, by simp, by simp⟩
set_option maxRecDepth 20000 in
set_option maxHeartbeats 16000000 in
theorem rused_any (m : MoV) (w : World) :
    Calls Tryd.prog 45 #[m.val] w fun e w' => e = .returned m.rused.val ∧ Below w.heap.size w w' := by
  have hk : m.kind = 4 ∨ m.kind = 5 ∨ m.kind = 0 ∨ (m.kind = 2 ∧ m.reason = 1) ∨ (m.kind = 2 ∧ ¬ m.reason = 1 ∧ m.reason = 3) ∨ (m.kind = 2 ∧ ¬ m.reason = 1 ∧ ¬ m.reason = 3) ∨ m.kind = 3 ∨ (¬ m.kind = 4 ∧ ¬ m.kind = 5 ∧ ¬ m.kind = 0 ∧ ¬ m.kind = 2 ∧ ¬ m.kind = 3) := by omega
  rcases hk with hk | hk | hk | ⟨hk, hn⟩ | ⟨hk, hn', hn⟩ | ⟨hk, hn', hn⟩ | hk | ⟨h4, h5, h0, h2, h3⟩
  · have HU := Lib.hid (show m.rused = ⟨m.kind, 0, 0, 0, 0, 0, 0, none, 0, [], none, 0, [], m.text⟩ from by unfold MoV.rused; simp [hk, talksB])
    generalize m.rused = mu at *
    obtain ⟨kind, id, addr, asn, time, reason, own, sA, sc, sent, cA, cc, came, text⟩ := m
    simp only [MoV.val, MoV.cells] at *
    subst hk
    go_enter Tryd.func45, Tryd.ntmps45
    go_wp2_with (refine wpList_store_new (by rfl) 45 (.tmp 3) (.tmp 6) rfl _ _ _ rfl (by rfl) (by rfl) (by kernel_rfl) (by rfl) (by simp [Value.oneCell']) ?_)
    go_wp2_with fail
    refine bodyPost_ret (results_cell_row rfl _ _ (w.heap.size + 1) 45 _ (0, 0) _ rfl ((Blk.new1 w _ _ _).alloc _) Tryd.underlying45 rfl (by kernel_rfl)) rfl ?_
    refine ⟨?_, by repeat (first | exact Below.refl _ _ | refine Below.drew ?_ | refine Below.alloc ?_ (by first | omega | (simp <;> omega)) _)⟩
    rw [HU.out]
    first | rfl | simp [*]
  · have HU := Lib.hid (show m.rused = ⟨m.kind, 0, 0, 0, 0, 0, 0, none, 0, [], none, 0, [], m.text⟩ from by unfold MoV.rused; simp [hk, talksB])
    generalize m.rused = mu at *
    obtain ⟨kind, id, addr, asn, time, reason, own, sA, sc, sent, cA, cc, came, text⟩ := m
    simp only [MoV.val, MoV.cells] at *
    subst hk
    go_enter Tryd.func45, Tryd.ntmps45
    go_wp2_with (refine wpList_store_new (by rfl) 45 (.tmp 3) (.tmp 6) rfl _ _ _ rfl (by rfl) (by rfl) (by kernel_rfl) (by rfl) (by simp [Value.oneCell']) ?_)
    go_wp2_with fail
    refine bodyPost_ret (results_cell_row rfl _ _ (w.heap.size + 1) 45 _ (0, 0) _ rfl ((Blk.new1 w _ _ _).alloc _) Tryd.underlying45 rfl (by kernel_rfl)) rfl ?_
    refine ⟨?_, by repeat (first | exact Below.refl _ _ | refine Below.drew ?_ | refine Below.alloc ?_ (by first | omega | (simp <;> omega)) _)⟩
    rw [HU.out]
    first | rfl | simp [*]
  · have HU := Lib.hid (show m.rused = ⟨m.kind, m.id, m.addr, m.asn, m.time, 0, 0, none, 0, [], m.cA, m.cc, m.came, []⟩ from by unfold MoV.rused; simp [hk, talksB])
    generalize m.rused = mu at *
    obtain ⟨kind, id, addr, asn, time, reason, own, sA, sc, sent, cA, cc, came, text⟩ := m
    simp only [MoV.val, MoV.cells] at *
    subst hk
    go_enter Tryd.func45, Tryd.ntmps45
    go_wp2_with (refine wpList_store_new (by rfl) 45 (.tmp 3) (.tmp 6) rfl _ _ _ rfl (by rfl) (by rfl) (by kernel_rfl) (by rfl) (by simp [Value.oneCell']) ?_)
    go_wp2_with fail
    go_region
    go_wp2_with fail
    refine bodyPost_ret (results_cell_row rfl _ _ (w.heap.size + 1) 45 _ (0, 0) _ rfl ((Blk.new1 w _ _ _).alloc _) Tryd.underlying45 rfl (by kernel_rfl)) rfl ?_
    refine ⟨?_, by repeat (first | exact Below.refl _ _ | refine Below.drew ?_ | refine Below.alloc ?_ (by first | omega | (simp <;> omega)) _)⟩
    rw [HU.out]
    first | rfl | simp [*]
  · have HU := Lib.hid (show m.rused = ⟨m.kind, m.id, m.addr, m.asn, m.time, m.reason, 0, none, 0, [], m.cA, m.cc, m.came, []⟩ from by unfold MoV.rused; simp [hk, hn, talksB, notedB])
    generalize m.rused = mu at *
    obtain ⟨kind, id, addr, asn, time, reason, own, sA, sc, sent, cA, cc, came, text⟩ := m
    simp only [MoV.val, MoV.cells] at *
    subst hk hn
    go_enter Tryd.func45, Tryd.ntmps45
    go_wp2_with (refine wpList_store_new (by rfl) 45 (.tmp 3) (.tmp 6) rfl _ _ _ rfl (by rfl) (by rfl) (by kernel_rfl) (by rfl) (by simp [Value.oneCell']) ?_)
    go_wp2_with fail
    go_region
    go_wp2_with fail
    refine bodyPost_ret (results_cell_row rfl _ _ (w.heap.size + 1) 45 _ (0, 0) _ rfl ((Blk.new1 w _ _ _).alloc _) Tryd.underlying45 rfl (by kernel_rfl)) rfl ?_
    refine ⟨?_, by repeat (first | exact Below.refl _ _ | refine Below.drew ?_ | refine Below.alloc ?_ (by first | omega | (simp <;> omega)) _)⟩
    rw [HU.out]
    first | rfl | simp [*]
  · have HU := Lib.hid (show m.rused = ⟨m.kind, m.id, m.addr, m.asn, m.time, m.reason, 0, none, 0, [], m.cA, m.cc, m.came, []⟩ from by unfold MoV.rused; simp [hk, hn, talksB, notedB])
    generalize m.rused = mu at *
    obtain ⟨kind, id, addr, asn, time, reason, own, sA, sc, sent, cA, cc, came, text⟩ := m
    simp only [MoV.val, MoV.cells] at *
    subst hk hn
    go_enter Tryd.func45, Tryd.ntmps45
    go_wp2_with (refine wpList_store_new (by rfl) 45 (.tmp 3) (.tmp 6) rfl _ _ _ rfl (by rfl) (by rfl) (by kernel_rfl) (by rfl) (by simp [Value.oneCell']) ?_)
    go_wp2_with fail
    go_region
    go_wp2_with fail
    refine bodyPost_ret (results_cell_row rfl _ _ (w.heap.size + 1) 45 _ (0, 0) _ rfl ((Blk.new1 w _ _ _).alloc _) Tryd.underlying45 rfl (by kernel_rfl)) rfl ?_
    refine ⟨?_, by repeat (first | exact Below.refl _ _ | refine Below.drew ?_ | refine Below.alloc ?_ (by first | omega | (simp <;> omega)) _)⟩
    rw [HU.out]
    first | rfl | simp [*]
  · have HU := Lib.hid (show m.rused = ⟨m.kind, m.id, m.addr, m.asn, m.time, m.reason, 0, none, 0, [], none, 0, [], []⟩ from by unfold MoV.rused; simp [hk, hn, hn', talksB, notedB])
    generalize m.rused = mu at *
    obtain ⟨kind, id, addr, asn, time, reason, own, sA, sc, sent, cA, cc, came, text⟩ := m
    simp only [MoV.val, MoV.cells] at *
    subst hk
    have hz1 : (reason == 1) = false := by simp [hn']
    have hz3 : (reason == 3) = false := by simp [hn]
    go_enter Tryd.func45, Tryd.ntmps45
    go_wp2_with (refine wpList_store_new (by rfl) 45 (.tmp 3) (.tmp 6) rfl _ _ _ rfl (by rfl) (by rfl) (by kernel_rfl) (by rfl) (by simp [Value.oneCell']) ?_)
    go_wp2_with fail
    go_region
    go_wp2_with fail
    refine bodyPost_ret (results_cell_row rfl _ _ (w.heap.size + 1) 45 _ (0, 0) _ rfl ((Blk.new1 w _ _ _).alloc _) Tryd.underlying45 rfl (by kernel_rfl)) rfl ?_
    refine ⟨?_, by repeat (first | exact Below.refl _ _ | refine Below.drew ?_ | refine Below.alloc ?_ (by first | omega | (simp <;> omega)) _)⟩
    rw [HU.out]
    first | rfl | simp [*]
  · have HU := Lib.hid (show m.rused = ⟨m.kind, m.id, m.addr, m.asn, m.time, 0, m.own, m.sA, m.sc, m.sent, m.cA, m.cc, m.came, []⟩ from by unfold MoV.rused; simp [hk, talksB])
    generalize m.rused = mu at *
    obtain ⟨kind, id, addr, asn, time, reason, own, sA, sc, sent, cA, cc, came, text⟩ := m
    simp only [MoV.val, MoV.cells] at *
    subst hk
    go_enter Tryd.func45, Tryd.ntmps45
    go_wp2_with (refine wpList_store_new (by rfl) 45 (.tmp 3) (.tmp 6) rfl _ _ _ rfl (by rfl) (by rfl) (by kernel_rfl) (by rfl) (by simp [Value.oneCell']) ?_)
    go_wp2_with fail
    go_region
    go_wp2_with fail
    go_region
    go_wp2_with fail
    refine bodyPost_ret (results_cell_row rfl _ _ (w.heap.size + 1) 45 _ (0, 0) _ rfl ((Blk.new1 w _ _ _).alloc _) Tryd.underlying45 rfl (by kernel_rfl)) rfl ?_
    refine ⟨?_, by repeat (first | exact Below.refl _ _ | refine Below.drew ?_ | refine Below.alloc ?_ (by first | omega | (simp <;> omega)) _)⟩
    rw [HU.out]
    first | rfl | simp [*]
  · have HU := Lib.hid (show m.rused = ⟨m.kind, m.id, m.addr, m.asn, m.time, 0, 0, none, 0, [], none, 0, [], []⟩ from by unfold MoV.rused; simp [h0, h2, h3, h4, h5, talksB])
    generalize m.rused = mu at *
    obtain ⟨kind, id, addr, asn, time, reason, own, sA, sc, sent, cA, cc, came, text⟩ := m
    simp only [MoV.val, MoV.cells] at *
    have hz0 : (kind == 0) = false := by simp [h0]
    have hz2 : (kind == 2) = false := by simp [h2]
    have hz3 : (kind == 3) = false := by simp [h3]
    have hz4 : (kind == 4) = false := by simp [h4]
    have hz5 : (kind == 5) = false := by simp [h5]
    go_enter Tryd.func45, Tryd.ntmps45
    go_wp2_with (refine wpList_store_new (by rfl) 45 (.tmp 3) (.tmp 6) rfl _ _ _ rfl (by rfl) (by rfl) (by kernel_rfl) (by rfl) (by simp [Value.oneCell']) ?_)
    go_wp2_with fail
    go_region
    go_wp2_with fail
    refine bodyPost_ret (results_cell_row rfl _ _ (w.heap.size + 1) 45 _ (0, 0) _ rfl ((Blk.new1 w _ _ _).alloc _) Tryd.underlying45 rfl (by kernel_rfl)) rfl ?_
    refine ⟨?_, by repeat (first | exact Below.refl _ _ | refine Below.drew ?_ | refine Below.alloc ?_ (by first | omega | (simp <;> omega)) _)⟩
    rw [HU.out]
    first | rfl | simp [*]
end Go.Proofs.YtbmbpcibihddaaaDoor
