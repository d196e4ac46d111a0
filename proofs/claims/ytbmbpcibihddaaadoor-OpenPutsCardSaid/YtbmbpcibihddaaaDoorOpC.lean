/-
  What routers say of themselves: all capabilities. No condition.
-/
import Derived.Test.YtbmbpcibihddaaaDoorOpB
namespace Go.Proofs.YtbmbpcibihddaaaDoor
open Go.ChangeShapes Go.WideShapes Go.ChangeAt Go.RowKit

theorem blk5' {w : World} {g : Nat} {t : TypeId} {a b c d e : Value} (h : Blk w g t #[a, b, c, d, e]) : w.cell? ⟨g, 0, none⟩ = some a ∧ w.cell? ⟨g, 1, none⟩ = some b ∧ w.cell? ⟨g, 2, none⟩ = some c ∧ w.cell? ⟨g, 3, none⟩ = some d ∧ w.cell? ⟨g, 4, none⟩ = some e :=
  ⟨by rw [h.cell 0]; rfl, by rw [h.cell 1]; rfl, by rw [h.cell 2]; rfl, by rw [h.cell 3]; rfl, by rw [h.cell 4]; rfl⟩

set_option maxRecDepth 10000 in
set_option maxHeartbeats 4000000 in
theorem ocaps_ok (o : OV) (w : World) (ha : 0 ≤ o.asn) (ha2 : o.asn < 4294967296) (hp : 0 ≤ o.paths) (hp3 : o.paths ≤ 3) :
    Calls Tryd.prog 29 #[o.val] w fun e w' => ∃ v, e = .returned v ∧ w'.ownsRow w.heap.size 5 1 v o.caps.length (o.caps.map vb) ∧ Below w.heap.size w w' := by
  obtain ⟨i0, hi, hz0, hz1, hz2⟩ := info_parts infoU8
  have hk0 := (Blk.new w 24 o.cells).alloc (.cells #[.int .u8 0, .int .u8 1, .int .u8 0, .int .u8 1] 5)
  have hb0 := below_a2 w (.cells o.cells 24) (.cells #[.int .u8 0, .int .u8 1, .int .u8 0, .int .u8 1] 5)
  have hD := Blk.new1 w (.cells o.cells 24) 5 #[.int .u8 0, .int .u8 1, .int .u8 0, .int .u8 1]
  have H1 := Lib.hid fun (_ : Unit) => ocap_ok 1 (some ⟨w.heap.size + 1, 0, none⟩) 4 [0, 1, 0, 1] (fun _ => True) _ (by simp) ((reads_of_blk hD).mono (fun _ _ _ => trivial))
  have hcaps : o.caps = (capL 1 [0, 1, 0, 1] ++ if o.four then capL 65 (be 4 o.asn.toNat) else []) ++ if 0 < o.paths then capL 69 [0, 1, 1, UInt8.ofNat o.paths.toNat] else [] := rfl
  generalize o.caps = cs at *
  obtain ⟨asn, hold, id, four, paths⟩ := o
  obtain ⟨a, rfl⟩ : ∃ a : Nat, asn = (a : Int) := ⟨asn.toNat, by simp only at ha; omega⟩
  obtain ⟨p, rfl⟩ : ∃ p : Nat, paths = (p : Int) := ⟨paths.toNat, by simp only at hp; omega⟩
  simp only [OV.val, OV.cells, Int.toNat_natCast] at *
  have HCS := Lib.hid fun (_ : Unit) => hcaps
  have e2 : IntKind.u8.wrap (p : Int) = (p : Int) := IntWalk.u8_in _ (by omega)
  clear hcaps hD
  go_enter Tryd.func29, Tryd.ntmps29
  go_wp2_with fail
  refine (H1.out ()).mono ?_
  rintro e w1 ⟨v1, rfl, o1, b1⟩
  obtain ⟨A1, c1, hv1, _, _, _, _⟩ := own_reads o1
  have hv1 : v1 = .slice A1 6 c1 := hv1
  subst hv1
  have k1 := hk0.below b1 hk0.lt
  have B1 := hb0.trans (b1.mono hb0.size)
  have oa : w1.ownsRow (w.heap.size + 1) 5 1 (.slice A1 6 c1) 6 ((capL 1 [0, 1, 0, 1]).map vb) := own_mono o1 (by simp)
  have hlt1 : w.heap.size < w1.heap.size := k1.lt
  clear o1
  clear H1 hk0 hb0 b1
  have HA2 := Lib.hid fun (_ : Unit) => (show a < 4294967296 by omega)
  have HP3 := Lib.hid fun (_ : Unit) => (show p ≤ 3 by omega)
  clear ha ha2 hp hp3
  -- the last step, from any row of the call's own on
  have HT := Lib.hid fun (A2 : Option Addr) (c2 n2 : Nat) (xs : List UInt8) (W : World) (hn : n2 ≤ 12) (hx : xs.length = n2) (o : W.ownsRow (w.heap.size + 1) 5 1 (.slice A2 n2 c2) n2 (xs.map vb)) (b : Below w.heap.size w W) (hlt : w.heap.size < W.heap.size) =>
    (show Calls Tryd.prog 28 #[.int .u8 69, .slice (some ⟨W.heap.size, 0, none⟩) 4 4] (W.alloc (.cells #[.int .u8 0, .int .u8 1, .int .u8 1, .int .u8 p] 5)) (fun e w' => ∃ A3 c3, e = .returned (.slice A3 6 c3) ∧ Reads w' (fun _ => True) A3 ((capL 69 [0, 1, 1, UInt8.ofNat p]).map vb) ∧ w'.ownsRow (w.heap.size + 1) 5 1 (.slice A2 n2 c2) n2 (xs.map vb) ∧ Below w.heap.size w w' ∧ w.heap.size + 1 ≤ w'.heap.size) from by
      have hp3 := HP3.out ()
      have hv : vb (UInt8.ofNat p) = .int .u8 p := by unfold vb; rw [UInt8.toNat_ofNat', Nat.mod_eq_of_lt (by omega)]
      have hr : Reads (W.alloc (.cells #[.int .u8 0, .int .u8 1, .int .u8 1, .int .u8 p] 5)) (fun _ => True) (some ⟨W.heap.size, 0, none⟩) ([0, 1, 1, UInt8.ofNat p].map vb) := by
        show Reads _ _ _ [vb 0, vb 1, vb 1, vb (UInt8.ofNat p)]
        rw [hv]
        exact (reads_of_blk (Blk.new W 5 #[.int .u8 0, .int .u8 1, .int .u8 1, .int .u8 p])).mono (fun _ _ _ => trivial)
      refine (ocap_ok 69 (some ⟨W.heap.size, 0, none⟩) 4 [0, 1, 1, UInt8.ofNat p] _ _ (by simp) hr).mono ?_
      rintro e w' ⟨v, rfl, o3, b3⟩
      obtain ⟨A3, c3, hv3, _, _, _, rd3⟩ := own_reads o3
      have hv3 : v = .slice A3 6 c3 := hv3
      subst hv3
      exact ⟨A3, c3, rfl, rd3.mono (fun _ _ _ => trivial), own_alive (own_alive o (below_a1 W _)) b3, (b.trans ((below_a1 W _).mono b.size)).trans (b3.mono (b.trans ((below_a1 W _).mono b.size)).size), by have := b3.size; simp at this; omega⟩)
  cases four
  case false =>
    obtain ⟨y0, y1, y2, y3, y4⟩ := blk5' k1
    by_cases hpp : (0 : Int) < (p : Int)
    · have HC := Lib.hid fun (_ : Unit) => (show cs = capL 1 [0, 1, 0, 1] ++ capL 69 [0, 1, 1, UInt8.ofNat p] from (HCS.out ()).trans (by rw [if_pos hpp]; simp))
      have HT1 := Lib.hid fun (_ : Unit) => HT.out A1 c1 6 _ w1 (by omega) (by rfl) oa B1 hlt1
      clear k1 HCS HT oa B1
      go_wp2_with fail
      refine (HT1.out ()).mono ?_
      rintro e w3 ⟨A3, c3, rfl, rd3, o3, B3, hs3⟩
      clear y0 y1 y2 y3 y4
      go_wp2_with (refine wpList_append_rd _ rfl (.tmp 17) (.tmp 22) 25 rfl (w.heap.size + 1) 5 i0 (.int .u8 0) 1 1 Tryd.underlying25 hi hz0 hz1 hz2 rfl (by omega) _ 6 _ (by rfl) o3 (fun _ => True) A3 6 c3 _ (by rfl) (by rfl) rd3 (vb_one _) (by unfold maxLen; omega) (by omega) hs3 ?_)
      intro v4 w4 o4 g4 _
      have B4 := below_append B3 B3.size (own_mono o3 (Nat.le_succ _)) g4
      have HO := Lib.hid fun (_ : Unit) => o4
      clear o4 o3 rd3 g4 B3
      go_wp2_with fail
      go_ret
      refine ⟨v4, rfl, ?_, B4⟩
      rw [HC.out (), List.map_append]
      exact own_mono (HO.out ()) (Nat.le_succ _)
    · have HC := Lib.hid fun (_ : Unit) => (show cs = capL 1 [0, 1, 0, 1] from (HCS.out ()).trans (by rw [if_neg hpp]; simp))
      clear k1 HCS HT
      go_wp2_with fail
      go_ret
      exact ⟨_, rfl, by rw [HC.out ()]; exact own_mono oa (Nat.le_succ _), B1⟩
  case true =>
    obtain ⟨y0, y1, y2, y3, y4⟩ := blk5' k1
    go_wp2_with fail
    refine (obytes4 a _ (HA2.out ())).mono ?_
    rintro e w2 ⟨v2, rfl, o2, b2⟩
    obtain ⟨A2, c2, hv2, _, _, _, rd2⟩ := own_reads o2
    subst hv2
    have ob := own_alive oa b2
    have k2 := k1.below b2 k1.lt
    have B2 := B1.trans (b2.mono B1.size)
    have H3 := Lib.hid fun (_ : Unit) => ocap_ok 65 A2 c2 (be 4 a) _ _ (by simp [be_length]) rd2
    clear o2 b2 oa k1 B1 y0 y1 y2 y3 y4 rd2
    go_wp2_with fail
    refine (H3.out ()).mono ?_
    rintro e w3 ⟨v3, rfl, o3, b3⟩
    obtain ⟨A3, c3, hv3, _, _, _, rd3⟩ := own_reads o3
    have hv3 : v3 = .slice A3 6 c3 := hv3
    subst hv3
    have oc := own_alive ob b3
    have k3 := k2.below b3 k2.lt
    have B3 := B2.trans (b3.mono B2.size)
    clear o3 b3 ob k2 B2 H3
    have hs3 : w.heap.size + 1 ≤ w3.heap.size := k3.lt
    go_wp2_with (refine wpList_append_rd _ rfl (.tmp 8) (.tmp 12) 25 rfl (w.heap.size + 1) 5 i0 (.int .u8 0) 1 1 Tryd.underlying25 hi hz0 hz1 hz2 rfl (by omega) _ 6 _ (by rfl) oc _ A3 6 c3 _ (by rfl) (by rfl) rd3 (vb_one _) (by unfold maxLen; omega) (by omega) hs3 ?_)
    intro v4 w4 o4 g4 _
    have B4 := below_append B3 B3.size (own_mono oc (Nat.le_succ _)) g4
    have k4 := k3.grown g4 (fun e => by have := (oc.lt w.heap.size e.symm).1; omega)
    rw [← List.map_append] at o4
    obtain ⟨A4, c4, hv4, _⟩ := own_reads o4
    have hv4 : v4 = .slice A4 12 c4 := hv4
    subst hv4
    have o4 : w4.ownsRow (w.heap.size + 1) 5 1 (.slice A4 12 c4) 12 ((capL 1 [0, 1, 0, 1] ++ capL 65 (be 4 a)).map vb) := o4
    have hlt4 := k4.lt
    obtain ⟨y0, y1, y2, y3, y4⟩ := blk5' k4
    by_cases hpp : (0 : Int) < (p : Int)
    · have HC := Lib.hid fun (_ : Unit) => (show cs = (capL 1 [0, 1, 0, 1] ++ capL 65 (be 4 a)) ++ capL 69 [0, 1, 1, UInt8.ofNat p] from (HCS.out ()).trans (by rw [if_pos hpp]; simp))
      have HT1 := Lib.hid fun (_ : Unit) => HT.out A4 c4 12 _ w4 (by omega) (by rfl) o4 B4 hlt4
      clear k4 HCS HT o4 B4 k3 B3 oc rd3 g4
      go_wp2_with fail
      refine (HT1.out ()).mono ?_
      rintro e w5 ⟨A5, c5, rfl, rd5, o5, B5, hs5⟩
      clear y0 y1 y2 y3 y4
      go_wp2_with (refine wpList_append_rd _ rfl (.tmp 17) (.tmp 22) 25 rfl (w.heap.size + 1) 5 i0 (.int .u8 0) 1 1 Tryd.underlying25 hi hz0 hz1 hz2 rfl (by omega) _ 12 _ (by rfl) o5 (fun _ => True) A5 6 c5 _ (by rfl) (by rfl) rd5 (vb_one _) (by unfold maxLen; omega) (by omega) hs5 ?_)
      intro v6 w6 o6 g6 _
      have B6 := below_append B5 B5.size (own_mono o5 (Nat.le_succ _)) g6
      have HO := Lib.hid fun (_ : Unit) => o6
      clear o6 o5 rd5 g6 B5
      go_wp2_with fail
      go_ret
      refine ⟨v6, rfl, ?_, B6⟩
      rw [HC.out (), List.map_append]
      exact own_mono (HO.out ()) (Nat.le_succ _)
    · have HC := Lib.hid fun (_ : Unit) => (show cs = capL 1 [0, 1, 0, 1] ++ capL 65 (be 4 a) from (HCS.out ()).trans (by rw [if_neg hpp]; simp))
      clear k4 HCS HT k3 B3 oc rd3 g4
      go_wp2_with fail
      go_ret
      exact ⟨_, rfl, by rw [HC.out ()]; exact own_mono o4 (Nat.le_succ _), B4⟩
end Go.Proofs.YtbmbpcibihddaaaDoor
