/-
  What is monitored: are two the same. No condition but that bytes read as data.
-/
import Derived.Test.YtbmbpcibihddaaaDoorBmpA
namespace Go.Proofs.YtbmbpcibihddaaaDoor
open Go.ChangeShapes Go.WideShapes Go.ChangeAt Go.RowKit

theorem eqB_true {a b : List UInt8} : eqB a b = true ↔ a = b := by simp [eqB]
theorem strB_inj {a b : List UInt8} (h : str a = str b) : a = b := by
  have := congrArg ByteArray.toList h
  simpa [str_toList] using this
section
variable (a b : MoV) (w : World) (F G : Nat → Prop)
theorem mon_boxes : Blk ((w.alloc (.cells a.cells 45)).alloc (.cells b.cells 45)) w.heap.size 45 a.cells ∧ Blk ((w.alloc (.cells a.cells 45)).alloc (.cells b.cells 45)) (w.heap.size + 1) 45 b.cells ∧ Below w.heap.size w ((w.alloc (.cells a.cells 45)).alloc (.cells b.cells 45)) :=
  ⟨(Blk.new w _ _).alloc _, Blk.new1 w _ _ _, below_a2 w _ _⟩

set_option maxRecDepth 20000 in
set_option maxHeartbeats 8000000 in
theorem bsame_any (hr : a.Rd w F) (hr' : b.Rd w G) :
    Calls Tryd.prog 48 #[a.val, b.val] w fun e w' => e = .returned (.bool (decide (a.d = b.d))) ∧ Below w.heap.size w w' := by
  obtain ⟨_, _, hb⟩ := mon_boxes a b w
  have HE1 := Lib.hid (bequal_any a.sA b.sA a.sc b.sc a.sent b.sent F G _ ((hr.s.alloc (.cells a.cells 45)).alloc (.cells b.cells 45)) ((hr'.s.alloc (.cells a.cells 45)).alloc (.cells b.cells 45)))
  have HE2 := Lib.hid (bequal_any a.cA b.cA a.cc b.cc a.came b.came F G _ ((hr.c.alloc (.cells a.cells 45)).alloc (.cells b.cells 45)) ((hr'.c.alloc (.cells a.cells 45)).alloc (.cells b.cells 45)))
  clear hr hr'
  have HT : (str a.text = str b.text) = (a.text = b.text) := propext ⟨strB_inj, fun h => by rw [h]⟩
  have H : decide (a.d = b.d) = (decide (a.kind = b.kind) && decide (a.id = b.id) && decide (a.addr = b.addr) && decide (a.asn = b.asn) && decide (a.time = b.time) && decide (a.reason = b.reason) && decide (a.own = b.own) && decide (str a.text = str b.text) && eqB a.sent b.sent && eqB a.came b.came) := by
    rw [Bool.eq_iff_iff]
    simp only [HT, MoV.d, MD.mk.injEq, decide_eq_true_eq, Bool.and_eq_true, eqB_true]
    constructor
    · rintro ⟨h1, h2, h3, h4, h5, h6, h7, h8, h9, h10⟩; exact ⟨⟨⟨⟨⟨⟨⟨⟨⟨h1, h2⟩, h3⟩, h4⟩, h5⟩, h6⟩, h7⟩, h10⟩, h8⟩, h9⟩
    · rintro ⟨⟨⟨⟨⟨⟨⟨⟨⟨h1, h2⟩, h3⟩, h4⟩, h5⟩, h6⟩, h7⟩, h10⟩, h8⟩, h9⟩; exact ⟨h1, h2, h3, h4, h5, h6, h7, h8, h9, h10⟩
  generalize decide (a.d = b.d) = R at *
  have HQ : ¬ str a.text = str b.text → ((str a.text).toList == (str b.text).toList) = false := fun h => by
    rw [str_eq]
    simp only [beq_eq_false_iff_ne, ne_eq]
    exact fun h' => h (by rw [h'])
  have HQ := Lib.hid HQ
  clear HT
  obtain ⟨kind1, id1, addr1, asn1, time1, reason1, own1, sA1, sc1, sent1, cA1, cc1, came1, text1⟩ := a
  obtain ⟨kind2, id2, addr2, asn2, time2, reason2, own2, sA2, sc2, sent2, cA2, cc2, came2, text2⟩ := b
  simp only [MoV.val, MoV.cells] at *
  generalize str text1 = q1 at *
  generalize str text2 = q2 at *
  generalize eqB sent1 sent2 = e1 at *
  generalize eqB came1 came2 = e2 at *
  have HHF := Lib.hid fun (h : (decide (kind1 = kind2) && decide (id1 = id2) && decide (addr1 = addr2) && decide (asn1 = asn2) && decide (time1 = time2) && decide (reason1 = reason2) && decide (own1 = own2) && decide (q1 = q2) && e1 && e2) = false) => (show R = false from H.trans h)
  have HHT := Lib.hid H
  clear H
  by_cases h_kind : kind1 = kind2
  case neg =>
    have HH := Lib.hid (HHF.out (by simp [h_kind]))
    skip
    clear HHF HHT
    go_enter Tryd.func48, Tryd.ntmps48
    go_wp2_with fail
    go_ret
    exact ⟨by rw [HH.out]; rfl, hb⟩
  subst h_kind
  by_cases h_id : id1 = id2
  case neg =>
    have HH := Lib.hid (HHF.out (by simp [h_id]))
    have h_i : ¬ (id1 : Int) = id2 := by omega
    clear HHF HHT
    go_enter Tryd.func48, Tryd.ntmps48
    go_wp2_with fail
    go_ret
    exact ⟨by rw [HH.out]; rfl, hb⟩
  subst h_id
  by_cases h_addr : addr1 = addr2
  case neg =>
    have HH := Lib.hid (HHF.out (by simp [h_addr]))
    have h_i : ¬ (addr1 : Int) = addr2 := by omega
    clear HHF HHT
    go_enter Tryd.func48, Tryd.ntmps48
    go_wp2_with fail
    go_ret
    exact ⟨by rw [HH.out]; rfl, hb⟩
  subst h_addr
  by_cases h_asn : asn1 = asn2
  case neg =>
    have HH := Lib.hid (HHF.out (by simp [h_asn]))
    skip
    clear HHF HHT
    go_enter Tryd.func48, Tryd.ntmps48
    go_wp2_with fail
    go_ret
    exact ⟨by rw [HH.out]; rfl, hb⟩
  subst h_asn
  by_cases h_time : time1 = time2
  case neg =>
    have HH := Lib.hid (HHF.out (by simp [h_time]))
    skip
    clear HHF HHT
    go_enter Tryd.func48, Tryd.ntmps48
    go_wp2_with fail
    go_ret
    exact ⟨by rw [HH.out]; rfl, hb⟩
  subst h_time
  by_cases h_reason : reason1 = reason2
  case neg =>
    have HH := Lib.hid (HHF.out (by simp [h_reason]))
    skip
    clear HHF HHT
    go_enter Tryd.func48, Tryd.ntmps48
    go_wp2_with fail
    go_ret
    exact ⟨by rw [HH.out]; rfl, hb⟩
  subst h_reason
  by_cases h_own : own1 = own2
  case neg =>
    have HH := Lib.hid (HHF.out (by simp [h_own]))
    have h_i : ¬ (own1 : Int) = own2 := by omega
    clear HHF HHT
    go_enter Tryd.func48, Tryd.ntmps48
    go_wp2_with fail
    go_ret
    exact ⟨by rw [HH.out]; rfl, hb⟩
  subst h_own
  by_cases h_q : q1 = q2
  case neg =>
    have HH := Lib.hid (HHF.out (by simp [h_q]))
    have h_i : (q1.toList == q2.toList) = false := HQ.out h_q
    clear HHF HHT
    go_enter Tryd.func48, Tryd.ntmps48
    go_wp2_with fail
    go_ret
    exact ⟨by rw [HH.out]; rfl, hb⟩
  subst h_q
  have h_i : (q1.toList == q1.toList) = true := by simp
  have HH := Lib.hid (show R = (e1 && e2) from by rw [HHT.out]; simp)
  clear HHF HHT
  cases e1
  case false =>
    go_enter Tryd.func48, Tryd.ntmps48
    go_wp2_with fail
    refine HE1.out.mono ?_
    rintro e w2 ⟨rfl, rfl⟩
    go_wp2_with fail
    go_ret
    exact ⟨by rw [HH.out]; rfl, hb⟩
  case true =>
    go_enter Tryd.func48, Tryd.ntmps48
    go_wp2_with fail
    refine HE1.out.mono ?_
    rintro e w2 ⟨rfl, rfl⟩
    go_wp2_with fail
    refine HE2.out.mono ?_
    rintro e w2 ⟨rfl, rfl⟩
    go_wp2_with fail
    go_ret
    exact ⟨by rw [HH.out]; rfl, hb⟩
end
end Go.Proofs.YtbmbpcibihddaaaDoor
