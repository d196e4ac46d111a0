/-
  What is monitored: what is used, which messages are there, Check. No condition but that bytes read as data and the table of least lengths as it is laid.
-/
import Derived.Test.YtbmbpcibihddaaaDoorBmpB
namespace Go.Proofs.YtbmbpcibihddaaaDoor
open Go.ChangeShapes Go.WideShapes Go.ChangeAt Go.RowKit

/-- with nothing but what its kind uses, as a value -/
def MoV.used (m : MoV) : MoV :=
  if talksB m.kind then ⟨m.kind, 0, 0, 0, 0, 0, 0, none, 0, [], none, 0, [], m.text⟩
  else if m.kind = 2 then (if notedB m.reason then ⟨m.kind, m.id, m.addr, m.asn, m.time, m.reason, 0, none, 0, [], m.cA, m.cc, m.came, []⟩ else ⟨m.kind, m.id, m.addr, m.asn, m.time, m.reason, 0, none, 0, [], none, 0, [], []⟩)
  else if m.kind = 3 then ⟨m.kind, m.id, m.addr, m.asn, m.time, 0, m.own, m.sA, m.sc, m.sent, m.cA, m.cc, m.came, []⟩
  else ⟨m.kind, m.id, m.addr, m.asn, m.time, 0, 0, none, 0, [], m.cA, m.cc, m.came, []⟩
theorem MoV.used_d (m : MoV) : m.used.d = m.d.used := by
  obtain ⟨kind, id, addr, asn, time, reason, own, sA, sc, sent, cA, cc, came, text⟩ := m
  unfold MoV.used MD.used
  by_cases ht : talksB kind = true
  · simp [MoV.d, ht]
  · by_cases h2 : kind = 2
    · subst h2
      by_cases hn : notedB reason = true
      · simp [MoV.d, talksB, hn]
      · simp [MoV.d, talksB, hn]
    · by_cases h3 : kind = 3
      · subst h3; simp [MoV.d, talksB]
      · simp [MoV.d, ht, h2, h3]
theorem MoV.used_rd {m : MoV} {w : World} {F : Nat → Prop} (h : m.Rd w F) : m.used.Rd w F := by
  unfold MoV.used
  split
  · exact ⟨.nil, .nil, by simp, by simp, by simp, by simp, h.tl⟩
  split
  · split
    · exact ⟨.nil, h.c, by simp, h.cl, by simp, h.ck, by simp⟩
    · exact ⟨.nil, .nil, by simp, by simp, by simp, by simp, by simp⟩
  split
  · exact ⟨h.s, h.c, h.sl, h.cl, h.sk, h.ck, by simp⟩
  · exact ⟨.nil, h.c, by simp, h.cl, by simp, h.ck, by simp⟩
set_option maxRecDepth 20000 in
set_option maxHeartbeats 8000000 in
theorem used_any (m : MoV) (w : World) :
    Calls Tryd.prog 49 #[m.val] w fun e w' => e = .returned m.used.val ∧ Below w.heap.size w w' := by
  have HT := Lib.hid fun W => talks_any m.kind W
  cases ht : talksB m.kind with
  | true =>
    rw [ht] at HT
    have HU := Lib.hid (show m.used = ⟨m.kind, 0, 0, 0, 0, 0, 0, none, 0, [], none, 0, [], m.text⟩ from by unfold MoV.used; rw [if_pos ht])
    generalize m.used = mu at *
    obtain ⟨kind, id, addr, asn, time, reason, own, sA, sc, sent, cA, cc, came, text⟩ := m
    simp only [MoV.val, MoV.cells] at *
    go_enter Tryd.func49, Tryd.ntmps49
    go_wp2_with (refine wpList_store_new (by rfl) 45 (.tmp 3) (.tmp 6) rfl _ _ _ rfl (by rfl) (by rfl) (by kernel_rfl) (by rfl) (by simp [Value.oneCell']) ?_)
    refine (HT.out _).mono ?_
    rintro e w1 ⟨rfl, rfl⟩
    go_wp2_with fail
    refine bodyPost_ret (results_cell_row rfl _ _ (w.heap.size + 1) 45 _ (0, 0) _ rfl ((Blk.new1 w _ _ _).alloc _) Tryd.underlying45 rfl (by kernel_rfl)) rfl ?_
    refine ⟨?_, by repeat (first | exact Below.refl _ _ | refine Below.drew ?_ | refine Below.alloc ?_ (by first | omega | (simp <;> omega)) _)⟩
    rw [HU.out]
    first | rfl | simp [*]
  | false =>
    rw [ht] at HT
    by_cases h2 : m.kind = 2
    · have HN := Lib.hid fun W => noted_any m.reason W
      cases hn : notedB m.reason with
      | true =>
        rw [hn] at HN
        have HU := Lib.hid (show m.used = ⟨m.kind, m.id, m.addr, m.asn, m.time, m.reason, 0, none, 0, [], m.cA, m.cc, m.came, []⟩ from by unfold MoV.used; rw [if_neg (by simp [ht]), if_pos h2, if_pos hn])
        generalize m.used = mu at *
        obtain ⟨kind, id, addr, asn, time, reason, own, sA, sc, sent, cA, cc, came, text⟩ := m
        simp only [MoV.val, MoV.cells] at *
        subst h2
        go_enter Tryd.func49, Tryd.ntmps49
        go_wp2_with (refine wpList_store_new (by rfl) 45 (.tmp 3) (.tmp 6) rfl _ _ _ rfl (by rfl) (by rfl) (by kernel_rfl) (by rfl) (by simp [Value.oneCell']) ?_)
        refine (HT.out _).mono ?_
        rintro e w1 ⟨rfl, rfl⟩
        go_wp2_with fail
        go_region
        go_wp2_with fail
        refine (HN.out _).mono ?_
        rintro e w1 ⟨rfl, rfl⟩
        go_wp2_with fail
        refine bodyPost_ret (results_cell_row rfl _ _ (w.heap.size + 1) 45 _ (0, 0) _ rfl ((Blk.new1 w _ _ _).alloc _) Tryd.underlying45 rfl (by kernel_rfl)) rfl ?_
        refine ⟨?_, by repeat (first | exact Below.refl _ _ | refine Below.drew ?_ | refine Below.alloc ?_ (by first | omega | (simp <;> omega)) _)⟩
        rw [HU.out]
        first | rfl | simp [*]
      | false =>
        rw [hn] at HN
        have HU := Lib.hid (show m.used = ⟨m.kind, m.id, m.addr, m.asn, m.time, m.reason, 0, none, 0, [], none, 0, [], []⟩ from by unfold MoV.used; rw [if_neg (by simp [ht]), if_pos h2, if_neg (by simp [hn])])
        generalize m.used = mu at *
        obtain ⟨kind, id, addr, asn, time, reason, own, sA, sc, sent, cA, cc, came, text⟩ := m
        simp only [MoV.val, MoV.cells] at *
        subst h2
        go_enter Tryd.func49, Tryd.ntmps49
        go_wp2_with (refine wpList_store_new (by rfl) 45 (.tmp 3) (.tmp 6) rfl _ _ _ rfl (by rfl) (by rfl) (by kernel_rfl) (by rfl) (by simp [Value.oneCell']) ?_)
        refine (HT.out _).mono ?_
        rintro e w1 ⟨rfl, rfl⟩
        go_wp2_with fail
        go_region
        go_wp2_with fail
        refine (HN.out _).mono ?_
        rintro e w1 ⟨rfl, rfl⟩
        go_wp2_with fail
        refine bodyPost_ret (results_cell_row rfl _ _ (w.heap.size + 1) 45 _ (0, 0) _ rfl ((Blk.new1 w _ _ _).alloc _) Tryd.underlying45 rfl (by kernel_rfl)) rfl ?_
        refine ⟨?_, by repeat (first | exact Below.refl _ _ | refine Below.drew ?_ | refine Below.alloc ?_ (by first | omega | (simp <;> omega)) _)⟩
        rw [HU.out]
        first | rfl | simp [*]
    by_cases h3 : m.kind = 3
    · have HU := Lib.hid (show m.used = ⟨m.kind, m.id, m.addr, m.asn, m.time, 0, m.own, m.sA, m.sc, m.sent, m.cA, m.cc, m.came, []⟩ from by unfold MoV.used; rw [if_neg (by simp [ht]), if_neg h2, if_pos h3])
      generalize m.used = mu at *
      obtain ⟨kind, id, addr, asn, time, reason, own, sA, sc, sent, cA, cc, came, text⟩ := m
      simp only [MoV.val, MoV.cells] at *
      subst h3
      go_enter Tryd.func49, Tryd.ntmps49
      go_wp2_with (refine wpList_store_new (by rfl) 45 (.tmp 3) (.tmp 6) rfl _ _ _ rfl (by rfl) (by rfl) (by kernel_rfl) (by rfl) (by simp [Value.oneCell']) ?_)
      refine (HT.out _).mono ?_
      rintro e w1 ⟨rfl, rfl⟩
      go_wp2_with fail
      go_region
      go_wp2_with fail
      go_region
      go_wp2_with fail
      refine bodyPost_ret (results_cell_row rfl _ _ (w.heap.size + 1) 45 _ (0, 0) _ rfl ((Blk.new1 w _ _ _).alloc _) Tryd.underlying45 rfl (by kernel_rfl)) rfl ?_
      refine ⟨?_, by repeat (first | exact Below.refl _ _ | refine Below.drew ?_ | refine Below.alloc ?_ (by first | omega | (simp <;> omega)) _)⟩
      rw [HU.out]
      first | rfl | simp [*]
    have HU := Lib.hid (show m.used = ⟨m.kind, m.id, m.addr, m.asn, m.time, 0, 0, none, 0, [], m.cA, m.cc, m.came, []⟩ from by unfold MoV.used; rw [if_neg (by simp [ht]), if_neg h2, if_neg h3])
    generalize m.used = mu at *
    obtain ⟨kind, id, addr, asn, time, reason, own, sA, sc, sent, cA, cc, came, text⟩ := m
    simp only [MoV.val, MoV.cells] at *
    go_enter Tryd.func49, Tryd.ntmps49
    go_wp2_with (refine wpList_store_new (by rfl) 45 (.tmp 3) (.tmp 6) rfl _ _ _ rfl (by rfl) (by rfl) (by kernel_rfl) (by rfl) (by simp [Value.oneCell']) ?_)
    refine (HT.out _).mono ?_
    rintro e w1 ⟨rfl, rfl⟩
    go_wp2_with fail
    go_region
    go_wp2_with fail
    refine bodyPost_ret (results_cell_row rfl _ _ (w.heap.size + 1) 45 _ (0, 0) _ rfl ((Blk.new1 w _ _ _).alloc _) Tryd.underlying45 rfl (by kernel_rfl)) rfl ?_
    refine ⟨?_, by repeat (first | exact Below.refl _ _ | refine Below.drew ?_ | refine Below.alloc ?_ (by first | omega | (simp <;> omega)) _)⟩
    rw [HU.out]
    first | rfl | simp [*]
end Go.Proofs.YtbmbpcibihddaaaDoor
