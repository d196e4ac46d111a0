/-
  What is monitored, by the document: whole messages, are two the same, what is used. No condition but that bytes read as data. (Printed by program, off the texts for the program's own functions.)
-/
import Derived.Test.YtbmbpcibihddaaaDoorBmpF
import Derived.Test.YtbmbpcibihddaaaDoorFrameG
namespace Go.Proofs.YtbmbpcibihddaaaDoor
open Go.ChangeShapes Go.WideShapes Go.ChangeAt Go.RowKit

set_option maxRecDepth 10000 in
set_option maxHeartbeats 2000000 in
theorem rwhole_any (A : Option Addr) (c : Nat) (l : List UInt8) (F : Nat → Prop) (kind : Int) (w : World) (hlc : l.length ≤ c) (hlm : l.length ≤ 9223372036854775807) (hr : Reads w F A (l.map vb)) :
    Calls Tryd.prog 25 #[.slice A l.length c, .int .i64 kind] w fun e w' => e = .returned (.bool (wholeB l kind)) ∧ Below w.heap.size w w' := by
  have HH := Lib.hid (rhead_any A c l F w hlc hlm hr)
  have HE : wholeB l kind = (decide ((headR l).code = 0) && decide ((headR l).k = kind) && decide ((headR l).k ≠ 0) && decide ((headR l).n = l.length)) := rfl
  generalize headR l = r at *
  generalize wholeB l kind = wb at *
  obtain ⟨rk, rn, rcode, rsub, rd⟩ := r
  simp only [HR.val] at *
  clear hr hlc
  generalize l.length = L at *
  have h5 : (¬ rcode = 0) ∨ (rcode = 0 ∧ ¬ rk = kind) ∨ (rcode = 0 ∧ kind = rk ∧ rk = 0) ∨ (rcode = 0 ∧ kind = rk ∧ ¬ rk = 0 ∧ ¬ rn = (L : Int)) ∨ (rcode = 0 ∧ kind = rk ∧ ¬ rk = 0 ∧ rn = (L : Int)) := by omega
  rcases h5 with h1 | ⟨rfl, h2⟩ | ⟨rfl, rfl, rfl⟩ | ⟨rfl, rfl, h3, h4⟩ | ⟨rfl, rfl, h3, rfl⟩
  all_goals
    have HW := Lib.hid HE
    clear HE
    go_enter Tryd.func25, Tryd.ntmps25
    go_wp2_with fail
    refine HH.out.mono ?_
    rintro e w1 ⟨v, rfl, ho, hb⟩
    obtain ⟨A1, c1, hv1, -, -, -, -⟩ := own_reads ho
    subst hv1
    clear ho HH
    go_wp2_with (refine wpList_store_new (by rfl) 37 (.tmp 7) (.tmp 13) rfl w1 #[.int .i64 0, .int .i64 0, .slice none 0 0] _ rfl (by rfl) (by rfl) (by kernel_rfl) (by rfl) (note_one _ _ _ _ _) ?_)
    go_ret
    refine ⟨?_, hb.alloc hb.size _⟩
    rw [HW.out]
    first | rfl | simp [*]

theorem rfits4_any (k : Int) (w : World) : Calls Tryd.prog 46 #[.int .i64 k, .int .i64 4] w fun e w' => e = .returned (.bool (fits4 k)) ∧ w = w' := by
  have h : (¬ 0 ≤ k) ∨ (0 ≤ k ∧ ¬ k < 4294967296) ∨ (0 ≤ k ∧ k < 4294967296) := by omega
  rcases h with h4 | ⟨h4, h5⟩ | ⟨h4, h5⟩
  all_goals
    have H := Lib.hid (show fits4 k = (decide (0 ≤ k) && decide (k ≤ 4294967295)) from rfl)
    go_enter Tryd.func46, Tryd.ntmps46
    go_wp2_with fail
    go_ret
    refine ⟨?_, rfl⟩
    rw [H.out]
    first | rfl | (simp [*]; done) | (simp [*]; omega)
section
variable (a b : MoV) (w : World) (F G : Nat → Prop)
set_option maxRecDepth 20000 in
set_option maxHeartbeats 8000000 in
theorem rsame_any (hr : a.Rd w F) (hr' : b.Rd w G) :
    Calls Tryd.prog 22 #[a.val, b.val] w fun e w' => e = .returned (.bool (decide (a.d = b.d))) ∧ Below w.heap.size w w' := by
  obtain ⟨_, _, hb⟩ := mon_boxes a b w
  have ra1 := (hr.s.alloc (.cells a.cells 45)).alloc (.cells b.cells 45)
  have rb1 := (hr'.s.alloc (.cells a.cells 45)).alloc (.cells b.cells 45)
  have ra2 := (hr.c.alloc (.cells a.cells 45)).alloc (.cells b.cells 45)
  have rb2 := (hr'.c.alloc (.cells a.cells 45)).alloc (.cells b.cells 45)
  have s1 := run_convert_rd (P := Tryd.prog) 25 9 5 a.sc Tryd.underlying25 Tryd.underlying5 Tryd.underlying9 ra1
  have s2 := run_convert_rd (P := Tryd.prog) 25 9 5 b.sc Tryd.underlying25 Tryd.underlying5 Tryd.underlying9 rb1
  have s3 := run_convert_rd (P := Tryd.prog) 25 9 5 a.cc Tryd.underlying25 Tryd.underlying5 Tryd.underlying9 ra2
  have s4 := run_convert_rd (P := Tryd.prog) 25 9 5 b.cc Tryd.underlying25 Tryd.underlying5 Tryd.underlying9 rb2
  have HEE := Lib.hid (show ((str a.sent).toList == (str b.sent).toList) = eqB a.sent b.sent ∧ ((str a.came).toList == (str b.came).toList) = eqB a.came b.came from by
    refine ⟨?_, ?_⟩
    · rw [str_eq]; simp only [eqB]; by_cases h : a.sent = b.sent <;> simp [h]
    · rw [str_eq]; simp only [eqB]; by_cases h : a.came = b.came <;> simp [h])
  clear ra1 rb1 ra2 rb2
  clear hr hr'
  have HT : (str a.text = str b.text) = (a.text = b.text) := propext ⟨strB_inj, fun h => by rw [h]⟩
  have H : decide (a.d = b.d) = (decide (a.kind = b.kind) && decide (a.id = b.id) && decide (a.addr = b.addr) && decide (a.asn = b.asn) && decide (a.time = b.time) && decide (a.reason = b.reason) && decide (a.own = b.own) && eqB a.sent b.sent && eqB a.came b.came && decide (str a.text = str b.text)) := by
    rw [Bool.eq_iff_iff]
    simp only [HT, MoV.d, MD.mk.injEq, decide_eq_true_eq, Bool.and_eq_true, eqB_true]
    constructor
    · rintro ⟨h1, h2, h3, h4, h5, h6, h7, h8, h9, h10⟩; exact ⟨⟨⟨⟨⟨⟨⟨⟨⟨h1, h2⟩, h3⟩, h4⟩, h5⟩, h6⟩, h7⟩, h8⟩, h9⟩, h10⟩
    · rintro ⟨⟨⟨⟨⟨⟨⟨⟨⟨h1, h2⟩, h3⟩, h4⟩, h5⟩, h6⟩, h7⟩, h8⟩, h9⟩, h10⟩; exact ⟨h1, h2, h3, h4, h5, h6, h7, h8, h9, h10⟩
  generalize decide (a.d = b.d) = R at *
  have HQ : ¬ str a.text = str b.text → ((str a.text).toList == (str b.text).toList) = false := fun h => by
    rw [str_eq]
    simp only [beq_eq_false_iff_ne, ne_eq]
    exact fun h' => h (by rw [h'])
  have HQ := Lib.hid HQ
  clear HT
  obtain ⟨kind1, id1, addr1, asn1, time1, reason1, own1, sA1, sc1, sent1, cA1, cc1, came1, text1⟩ := a
  obtain ⟨kind2, id2, addr2, asn2, time2, reason2, own2, sA2, sc2, sent2, cA2, cc2, came2, text2⟩ := b
  simp only [MoV.val, MoV.cells] at *
  generalize str text1 = q1 at *
  generalize str text2 = q2 at *
  generalize str sent1 = u1 at *
  generalize str sent2 = u2 at *
  generalize str came1 = u3 at *
  generalize str came2 = u4 at *
  generalize eqB sent1 sent2 = e1 at *
  generalize eqB came1 came2 = e2 at *
  have HHF := Lib.hid fun (h : (decide (kind1 = kind2) && decide (id1 = id2) && decide (addr1 = addr2) && decide (asn1 = asn2) && decide (time1 = time2) && decide (reason1 = reason2) && decide (own1 = own2) && e1 && e2 && decide (q1 = q2)) = false) => (show R = false from H.trans h)
  have HHT := Lib.hid H
  clear H
  by_cases h_kind : kind1 = kind2
  case neg =>
    have HH := Lib.hid (HHF.out (by simp [h_kind]))
    skip
    clear HHF HHT
    go_enter Tryd.func22, Tryd.ntmps22
    go_wp2_with fail
    go_ret
    exact ⟨by rw [HH.out]; first | rfl | simp [*], hb⟩
  subst h_kind
  by_cases h_id : id1 = id2
  case neg =>
    have HH := Lib.hid (HHF.out (by simp [h_id]))
    have h_i : ¬ (id1 : Int) = id2 := by omega
    clear HHF HHT
    go_enter Tryd.func22, Tryd.ntmps22
    go_wp2_with fail
    go_ret
    exact ⟨by rw [HH.out]; first | rfl | simp [*], hb⟩
  subst h_id
  by_cases h_addr : addr1 = addr2
  case neg =>
    have HH := Lib.hid (HHF.out (by simp [h_addr]))
    have h_i : ¬ (addr1 : Int) = addr2 := by omega
    clear HHF HHT
    go_enter Tryd.func22, Tryd.ntmps22
    go_wp2_with fail
    go_ret
    exact ⟨by rw [HH.out]; first | rfl | simp [*], hb⟩
  subst h_addr
  by_cases h_asn : asn1 = asn2
  case neg =>
    have HH := Lib.hid (HHF.out (by simp [h_asn]))
    skip
    clear HHF HHT
    go_enter Tryd.func22, Tryd.ntmps22
    go_wp2_with fail
    go_ret
    exact ⟨by rw [HH.out]; first | rfl | simp [*], hb⟩
  subst h_asn
  by_cases h_time : time1 = time2
  case neg =>
    have HH := Lib.hid (HHF.out (by simp [h_time]))
    skip
    clear HHF HHT
    go_enter Tryd.func22, Tryd.ntmps22
    go_wp2_with fail
    go_ret
    exact ⟨by rw [HH.out]; first | rfl | simp [*], hb⟩
  subst h_time
  by_cases h_reason : reason1 = reason2
  case neg =>
    have HH := Lib.hid (HHF.out (by simp [h_reason]))
    skip
    clear HHF HHT
    go_enter Tryd.func22, Tryd.ntmps22
    go_wp2_with fail
    go_ret
    exact ⟨by rw [HH.out]; first | rfl | simp [*], hb⟩
  subst h_reason
  by_cases h_own : own1 = own2
  case neg =>
    have HH := Lib.hid (HHF.out (by simp [h_own]))
    have h_i : ¬ (own1 : Int) = own2 := by omega
    clear HHF HHT
    go_enter Tryd.func22, Tryd.ntmps22
    go_wp2_with fail
    go_ret
    exact ⟨by rw [HH.out]; first | rfl | simp [*], hb⟩
  subst h_own
  obtain ⟨hee1, hee2⟩ := HEE.out
  cases e1
  case false =>
    have HH := Lib.hid (HHF.out (by simp))
    clear HHF HHT
    go_enter Tryd.func22, Tryd.ntmps22
    go_wp2_with fail
    go_ret
    exact ⟨by rw [HH.out]; first | rfl | simp [*], hb⟩
  cases e2
  case false =>
    have HH := Lib.hid (HHF.out (by simp))
    clear HHF HHT
    go_enter Tryd.func22, Tryd.ntmps22
    go_wp2_with fail
    go_ret
    exact ⟨by rw [HH.out]; first | rfl | simp [*], hb⟩
  by_cases h_q : q1 = q2
  case neg =>
    have HH := Lib.hid (HHF.out (by simp [h_q]))
    have h_i : (q1.toList == q2.toList) = false := HQ.out h_q
    clear HHF HHT
    go_enter Tryd.func22, Tryd.ntmps22
    go_wp2_with fail
    go_ret
    exact ⟨by rw [HH.out]; first | rfl | simp [*], hb⟩
  subst h_q
  have h_i : (q1.toList == q1.toList) = true := by simp
  have HH := Lib.hid (show R = true from by rw [HHT.out]; simp)
  clear HHF HHT
  go_enter Tryd.func22, Tryd.ntmps22
  go_wp2_with fail
  go_ret
  exact ⟨by rw [HH.out]; first | rfl | simp [*], hb⟩
end
end Go.Proofs.YtbmbpcibihddaaaDoor
