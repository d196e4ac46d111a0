/-
  What is monitored: whole messages, equal bytes, what is used, are two the same. No condition but that bytes read as data and the table of least lengths as it is laid.
-/
import Derived.Test.YtbmbpcibihddaaaDoorBmpP
import Derived.Test.YtbmbpcibihddaaaDoorFrameD
import Derived.Deep.DeepCutAuto
import Derived.Deep.CutBlock
import Derived.Deep.RegionHeld3
namespace Go.Proofs.YtbmbpcibihddaaaDoor
open Go.ChangeShapes Go.WideShapes Go.ChangeAt Go.RowKit

set_option maxRecDepth 10000 in
set_option maxHeartbeats 2000000 in
theorem whole_any (A : Option Addr) (c : Nat) (l : List UInt8) (F : Nat → Prop) (kind : Int) (w : World) (hlc : l.length ≤ c) (hlm : l.length ≤ 9223372036854775807) (hr : Reads w F A (l.map vb)) (hT : LeastAt w) :
    Calls Tryd.prog 24 #[.slice A l.length c, .int .i64 kind] w fun e w' => e = .returned (.bool (wholeB l kind)) ∧ Below w.heap.size w w' := by
  have HH := Lib.hid (head_any A c l F w hlc hlm hr hT)
  have HE : wholeB l kind = (decide ((headR l).code = 0) && decide ((headR l).k = kind) && decide ((headR l).k ≠ 0) && decide ((headR l).n = l.length)) := rfl
  generalize headR l = r at *
  generalize wholeB l kind = wb at *
  obtain ⟨rk, rn, rcode, rsub, rd⟩ := r
  simp only [HR.val] at *
  clear hr hT hlc
  generalize l.length = L at *
  have h5 : (¬ rcode = 0) ∨ (rcode = 0 ∧ ¬ rk = kind) ∨ (rcode = 0 ∧ kind = rk ∧ rk = 0) ∨ (rcode = 0 ∧ kind = rk ∧ ¬ rk = 0 ∧ ¬ rn = (L : Int)) ∨ (rcode = 0 ∧ kind = rk ∧ ¬ rk = 0 ∧ rn = (L : Int)) := by omega
  rcases h5 with h1 | ⟨rfl, h2⟩ | ⟨rfl, rfl, rfl⟩ | ⟨rfl, rfl, h3, h4⟩ | ⟨rfl, rfl, h3, rfl⟩
  all_goals
    have HW := Lib.hid HE
    clear HE
    go_enter Tryd.func24, Tryd.ntmps24
    go_wp2_with fail
    refine HH.out.mono ?_
    rintro e w1 ⟨v, rfl, ho, hb⟩
    obtain ⟨A1, c1, hv1, -, -, -, -⟩ := own_reads ho
    subst hv1
    clear ho HH
    go_wp2_with (refine wpList_store_new (by rfl) 37 (.tmp 7) (.tmp 13) rfl w1 #[.int .i64 0, .int .i64 0, .slice none 0 0] _ rfl (by rfl) (by rfl) (by kernel_rfl) (by rfl) (note_one _ _ _ _ _) ?_)
    go_ret
    refine ⟨?_, hb.alloc hb.size _⟩
    rw [HW.out]
    first | rfl | simp [*]

theorem talks_any (k : Int) (w : World) : Calls Tryd.prog 66 #[.int .i64 k] w fun e w' => e = .returned (.bool (talksB k)) ∧ w = w' := by
  have h : k = 4 ∨ (¬ k = 4 ∧ k = 5) ∨ (¬ k = 4 ∧ ¬ k = 5) := by omega
  rcases h with rfl | ⟨h4, rfl⟩ | ⟨h4, h5⟩
  all_goals
    first | (have H := Lib.hid (show talksB k = false from by simp [talksB, h4, h5])) | skip
    go_enter Tryd.func66, Tryd.ntmps66
    go_wp2_with fail
    go_ret
    first | exact ⟨rfl, rfl⟩ | exact ⟨by rw [H.out]; first | rfl | simp [*], rfl⟩
theorem noted_any (k : Int) (w : World) : Calls Tryd.prog 72 #[.int .i64 k] w fun e w' => e = .returned (.bool (notedB k)) ∧ w = w' := by
  have h : k = 1 ∨ (¬ k = 1 ∧ k = 3) ∨ (¬ k = 1 ∧ ¬ k = 3) := by omega
  rcases h with rfl | ⟨h4, rfl⟩ | ⟨h4, h5⟩
  all_goals
    first | (have H := Lib.hid (show notedB k = false from by simp [notedB, h4, h5])) | skip
    go_enter Tryd.func72, Tryd.ntmps72
    go_wp2_with fail
    go_ret
    first | exact ⟨rfl, rfl⟩ | exact ⟨by rw [H.out]; first | rfl | simp [*], rfl⟩
theorem fits4_any (k : Int) (w : World) : Calls Tryd.prog 47 #[.int .i64 k] w fun e w' => e = .returned (.bool (fits4 k)) ∧ w = w' := by
  have h : (¬ 0 ≤ k) ∨ (0 ≤ k ∧ ¬ k ≤ 4294967295) ∨ (0 ≤ k ∧ k ≤ 4294967295) := by omega
  rcases h with h4 | ⟨h4, h5⟩ | ⟨h4, h5⟩
  all_goals
    have H := Lib.hid (show fits4 k = (decide (0 ≤ k) && decide (k ≤ 4294967295)) from rfl)
    go_enter Tryd.func47, Tryd.ntmps47
    go_wp2_with fail
    go_ret
    refine ⟨?_, rfl⟩
    rw [H.out]
    first | rfl | (simp [*]; done) | (simp [*]; omega)
theorem bequal_any (A A' : Option Addr) (c c' : Nat) (l l' : List UInt8) (F F' : Nat → Prop) (w : World) (hr : Reads w F A (l.map vb)) (hr' : Reads w F' A' (l'.map vb)) :
    Calls Tryd.prog 52 #[.slice A l.length c, .slice A' l'.length c'] w fun e w' => e = .returned (.bool (eqB l l')) ∧ w = w' := by
  have s1 := run_convert_rd (P := Tryd.prog) 25 9 5 c Tryd.underlying25 Tryd.underlying5 Tryd.underlying9 hr
  have s2 := run_convert_rd (P := Tryd.prog) 25 9 5 c' Tryd.underlying25 Tryd.underlying5 Tryd.underlying9 hr'
  have H := Lib.hid (show eqB l l' = ((str l).toList == (str l').toList) from by rw [str_eq]; simp only [eqB]; by_cases h : l = l' <;> simp [h])
  clear hr hr'
  generalize str l = q1 at *
  generalize str l' = q2 at *
  generalize eqB l l' = eb at *
  generalize l.length = L at *
  generalize l'.length = L' at *
  go_enter Tryd.func52, Tryd.ntmps52
  go_wp2_with fail
  go_ret
  exact ⟨by rw [H.out]; rfl, rfl⟩

/-- what is monitored, as a value -/
structure MoV where
  kind : Int
  id : Nat
  addr : Nat
  asn : Int
  time : Int
  reason : Int
  own : Nat
  sA : Option Addr
  sc : Nat
  sent : List UInt8
  cA : Option Addr
  cc : Nat
  came : List UInt8
  text : List UInt8
def MoV.cells (m : MoV) : Array Value := #[.int .i64 m.kind, .int .u32 m.id, .int .u32 m.addr, .int .i64 m.asn, .int .i64 m.time, .int .i64 m.reason, .int .u32 m.own, .slice m.sA m.sent.length m.sc, .slice m.cA m.came.length m.cc, .string (str m.text)]
def MoV.val (m : MoV) : Value := .agg m.cells
def MoV.d (m : MoV) : MD := ⟨m.kind, m.id, m.addr, m.asn, m.time, m.reason, m.own, m.sent, m.came, m.text⟩
/-- its bytes read as data -/
structure MoV.Rd (m : MoV) (w : World) (F : Nat → Prop) : Prop where
  s : Reads w F m.sA (m.sent.map vb)
  c : Reads w F m.cA (m.came.map vb)
  sl : m.sent.length ≤ 9223372036854775807
  cl : m.came.length ≤ 9223372036854775807
  sk : m.sent.length ≤ m.sc
  ck : m.came.length ≤ m.cc
  tl : m.text.length ≤ 9223372036854775807
theorem MoV.Rd.only {m : MoV} {w w' : World} {F T : Nat → Prop} (h : m.Rd w F) (ho : Only T w w') (hd : ∀ b, b < w.heap.size → F b → ¬ T b) : m.Rd w' F :=
  ⟨h.s.only ho hd, h.c.only ho hd, h.sl, h.cl, h.sk, h.ck, h.tl⟩
theorem MoV.Rd.below {m : MoV} {w w' : World} {F : Nat → Prop} {B : Nat} (h : m.Rd w F) (hb : Below B w w') (hd : ∀ b, b < w.heap.size → F b → b < B) : m.Rd w' F :=
  ⟨h.s.below hb hd, h.c.below hb hd, h.sl, h.cl, h.sk, h.ck, h.tl⟩
theorem MoV.Rd.mono {m : MoV} {w : World} {F G : Nat → Prop} (h : m.Rd w F) (hd : ∀ b, b < w.heap.size → F b → G b) : m.Rd w G :=
  ⟨h.s.mono hd, h.c.mono hd, h.sl, h.cl, h.sk, h.ck, h.tl⟩
theorem blk10 {w : World} {g : Nat} {t : TypeId} {a b c d e f h i j k : Value} (hb : Blk w g t #[a, b, c, d, e, f, h, i, j, k]) : w.cell? ⟨g, 0, none⟩ = some a ∧ w.cell? ⟨g, 1, none⟩ = some b ∧ w.cell? ⟨g, 2, none⟩ = some c ∧ w.cell? ⟨g, 3, none⟩ = some d ∧ w.cell? ⟨g, 4, none⟩ = some e ∧ w.cell? ⟨g, 5, none⟩ = some f ∧ w.cell? ⟨g, 6, none⟩ = some h ∧ w.cell? ⟨g, 7, none⟩ = some i ∧ w.cell? ⟨g, 8, none⟩ = some j ∧ w.cell? ⟨g, 9, none⟩ = some k :=
  ⟨by rw [hb.cell 0]; rfl, by rw [hb.cell 1]; rfl, by rw [hb.cell 2]; rfl, by rw [hb.cell 3]; rfl, by rw [hb.cell 4]; rfl, by rw [hb.cell 5]; rfl, by rw [hb.cell 6]; rfl, by rw [hb.cell 7]; rfl, by rw [hb.cell 8]; rfl, by rw [hb.cell 9]; rfl⟩
theorem mon_one (m : MoV) : m.cells.all (·.oneCell') = true := by simp [MoV.cells, Value.oneCell']
end Go.Proofs.YtbmbpcibihddaaaDoor
