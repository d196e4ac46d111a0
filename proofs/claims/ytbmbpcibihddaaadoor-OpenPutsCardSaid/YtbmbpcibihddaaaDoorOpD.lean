/-
  What routers say of themselves: the bytes of what may be. No condition.
-/
import Derived.Test.YtbmbpcibihddaaaDoorOpC
import Derived.Test.YtbmbpcibihddaaaDoorOpA
import Derived.Deep.DeepCutAuto
import Derived.Deep.CutBlock
import Derived.Deep.RegionHeld3
namespace Go.Proofs.YtbmbpcibihddaaaDoor
open Go.ChangeShapes Go.WideShapes Go.ChangeAt Go.RowKit

/-- the number that two bytes hold -/
def OV.as2 (o : OV) : Nat := if 65535 < o.asn then 23456 else o.asn.toNat
/-- the bytes -/
def OV.put (o : OV) : List UInt8 := 4 :: (be 2 o.as2 ++ (be 2 o.hold.toNat ++ (be 4 o.id ++ (UInt8.ofNat (capL 2 o.caps).length :: capL 2 o.caps))))
theorem Blk.newD (w : World) (t : TypeId) (cs : Array Value) : Blk (w.drew.alloc (.cells cs t)) w.heap.size t cs := Blk.new w.drew t cs
theorem Blk.new1D (w : World) (o : Obj) (t : TypeId) (cs : Array Value) : Blk ((w.drew.alloc o).alloc (.cells cs t)) (w.heap.size + 1) t cs := Blk.new1 w.drew o t cs
theorem Blk.new2 (w : World) (o o' : Obj) (t : TypeId) (cs : Array Value) : Blk (((w.alloc o).alloc o').alloc (.cells cs t)) (w.heap.size + 1 + 1) t cs := by
  have h := Blk.new1 (w.alloc o) o' t cs
  rwa [World.size_alloc] at h
theorem capL_length (c : UInt8) (d : List UInt8) : (capL c d).length = d.length + 2 := rfl
theorem OV.caps_length (o : OV) : 6 ≤ o.caps.length ∧ o.caps.length ≤ 18 := by
  unfold OV.caps
  split <;> split <;> simp [capL_length, be_length]
theorem OV.ok_iff {o : OV} (h : o.ok = true) : 1 ≤ o.asn ∧ o.asn ≤ 4294967295 ∧ (o.four = false → o.asn ≤ 65535) ∧ 0 ≤ o.hold ∧ o.hold ≤ 65535 ∧ o.hold ≠ 1 ∧ o.hold ≠ 2 ∧ o.id ≠ 0 ∧ 0 ≤ o.paths ∧ o.paths ≤ 3 := by
  obtain ⟨asn, hold, id, four, paths⟩ := o
  cases four <;> simp [OV.ok, OV.widest, withinB] at h ⊢ <;> omega
theorem OV.err_ok {o : OV} (h : o.ok = true) : o.err = 0 := by simp [OV.err, h]
theorem OV.err_no {o : OV} (h : o.ok = false) : o.err = 40 := by simp [OV.err, h]
set_option maxHeartbeats 1000000 in
theorem oput_no (o : OV) (w : World) (hok : o.ok = false) :
    Calls Tryd.prog 7 #[o.val] w fun e w' => e = .returned (.tuple #[.slice none 0 0, .int .i64 40]) ∧ Below w.heap.size w w' := by
  have hb0 := below_a1 w (.cells o.cells 24)
  have HC := Lib.hid (ocheck_any o (w.alloc (.cells o.cells 24)))
  rw [OV.err_no hok] at HC
  obtain ⟨asn, hold, id, four, paths⟩ := o
  simp only [OV.val, OV.cells] at *
  clear hok
  go_enter Tryd.func7, Tryd.ntmps7
  go_wp2_with fail
  refine HC.out.mono ?_
  rintro e w1 ⟨rfl, hb1⟩
  have hB1 := hb0.trans (hb1.mono hb0.size)
  clear hb1 hb0
  go_wp2_with fail
  go_ret2
  exact ⟨rfl, hB1⟩
set_option maxRecDepth 10000 in
set_option maxHeartbeats 8000000 in
theorem oput_ok (o : OV) (w : World) (hok : o.ok = true) (hi32 : o.id < 4294967296) :
    Calls Tryd.prog 7 #[o.val] w fun e w' => ∃ v, e = .returned (.tuple #[v, .int .i64 0]) ∧ w'.ownsRow w.heap.size 5 1 v o.put.length (o.put.map vb) ∧ Below w.heap.size w w' := by
  obtain ⟨g1, g2, -, g3, g4, -, -, -, g5, g6⟩ := OV.ok_iff hok
  have hb0 := below_a1 w (.cells o.cells 24)
  have hN0 := Blk.new w 24 o.cells
  have HC := Lib.hid (ocheck_any o (w.alloc (.cells o.cells 24)))
  rw [OV.err_ok hok] at HC
  have HCAP := Lib.hid fun W => ocaps_ok o W (by omega) (by omega) g5 g6
  have hcl := o.caps_length
  obtain ⟨a, ha⟩ : ∃ a : Nat, o.as2 = a := ⟨_, rfl⟩
  have ha2 : a < 65536 := by rw [← ha]; unfold OV.as2; split <;> omega
  have hA5 : (if 65535 < o.asn then (23456 : Int) else o.asn) = (a : Int) := by rw [← ha]; unfold OV.as2; split <;> simp <;> omega
  have HPUT := Lib.hid (show o.put = flat [⟨none, 0, [4]⟩, ⟨none, 0, be 2 a⟩, ⟨none, 0, be 2 o.hold.toNat⟩, ⟨none, 0, be 4 o.id⟩, ⟨none, 0, [UInt8.ofNat (capL 2 o.caps).length]⟩, ⟨none, 0, capL 2 o.caps⟩] from by simp [OV.put, flat, ha])
  generalize o.put = op at HPUT ⊢
  generalize o.caps = cs at *
  obtain ⟨asn, hold, i, four, paths⟩ := o
  simp only [OV.val, OV.cells] at *
  obtain ⟨h, rfl⟩ : ∃ h : Nat, hold = (h : Int) := ⟨hold.toNat, by omega⟩
  simp only [Int.toNat_natCast] at HPUT
  have hwr : Below w.heap.size w (w.alloc (.cells #[.int .i64 asn, .int .i64 h, .int .u32 i, .bool four, .int .i64 paths] 24)) := hb0
  clear hok ha
  go_enter Tryd.func7, Tryd.ntmps7
  go_wp2_with fail
  refine HC.out.mono ?_
  rintro e w1 ⟨rfl, hb1⟩
  have hN1 := Lib.hid (hN0.below hb1 hN0.lt)
  have hB1 := Lib.hid (hb0.trans (hb1.mono hb0.size))
  have hlt1 := hN1.out.lt
  obtain ⟨y0, y1, y2, y3, y4⟩ := blk5' hN1.out
  clear hN0 hb0 hb1 hwr
  go_upto_if 15 with fail
  go_cut [5] (fun v wx => v = .int .i64 (a : Int) ∧ wx = w1)
  case first =>
    by_cases h65 : 65535 < asn
    · rw [if_pos h65] at hA5
      have HA5 := Lib.hid hA5
      clear hA5
      go_wp2_with fail
      go_meet
      exact ⟨by rw [← HA5.out], rfl⟩
    · rw [if_neg h65] at hA5
      have HA5 := Lib.hid hA5
      clear hA5
      go_wp2_with fail
      go_meet
      exact ⟨by rw [← HA5.out], rfl⟩
  case rest =>
    obtain ⟨rfl, rfl⟩ := hcut
    obtain ⟨y0, y1, y2, y3, y4⟩ := blk5' hN1.out
    go_wp2_with fail
    refine (HCAP.out _).mono ?_
    rintro e wd ⟨v2, rfl, own2, hb2⟩
    obtain ⟨A1, c1, hv2, _, _, _, rd1⟩ := own_reads own2
    subst hv2
    have hNd := Lib.hid (hN1.out.below hb2 hlt1)
    have hBd := Lib.hid (hB1.out.trans (hb2.mono hB1.out.size))
    have HCP0 := ocap_ok 2 A1 c1 cs _ wd (by omega) rd1
    obtain ⟨n6, hn6⟩ : ∃ n6 : Nat, cs.length + 2 = n6 := ⟨_, rfl⟩
    rw [hn6] at HCP0
    have HCP := Lib.hid HCP0
    clear HCP0
    clear own2 hb2 rd1 HC HCAP
    go_wp2_with fail
    refine HCP.out.mono ?_
    rintro e w2 ⟨v3, rfl, own3, hb3⟩
    obtain ⟨A6, c6, hv3, _, _, _, rd6⟩ := own_reads own3
    subst hv3
    have hN2 := hNd.out.below hb3 hNd.out.lt
    have hB2 := Lib.hid (hBd.out.trans (hb3.mono hBd.out.size))
    have hlt2 := hN2.lt
    have HK := Lib.hid fun (W : World) (hb : Below w2.heap.size w2 W) => (show (W.cell? ⟨w.heap.size, 1, none⟩ = some (.int .i64 h)) ∧ (W.cell? ⟨w.heap.size, 2, none⟩ = some (.int .u32 i)) from by
      have hN := hN2.below hb hlt2
      exact ⟨by rw [hN.cell 1]; rfl, by rw [hN.cell 2]; rfl⟩)
    have hk1 := HK.out w2 (Below.refl _ _)
    have HB0 := Lib.hid (Below.refl w2.heap.size w2)
    have RD6 := Lib.hid (rd6.mono (G := (· < w2.heap.size)) (fun _ hk _ => hk))
    clear own3 hb3 rd6 HCP hNd hBd hN1 hB1 hN2 y0 y1 y2 y3 y4
    have HA := Lib.hid fun W => (obytes2 a W ha2).mono fun e w' hh => (show ∃ A c, e = .returned (.slice A 2 c) ∧ Hid (Reads w' (· < w'.heap.size) A ((be 2 a).map vb)) ∧ Below W.heap.size W w' from by
      obtain ⟨v, he, ho, hb⟩ := hh
      obtain ⟨A3, c3, hv, _, _, _, hrd⟩ := own_reads ho
      subst hv
      exact ⟨A3, c3, he, Lib.hid (hrd.mono (fun _ hk _ => hk)), hb⟩)
    have HH := Lib.hid fun W => (obytes2 h W (by omega)).mono fun e w' hh => (show ∃ A c, e = .returned (.slice A 2 c) ∧ Hid (Reads w' (· < w'.heap.size) A ((be 2 h).map vb)) ∧ Below W.heap.size W w' from by
      obtain ⟨v, he, ho, hb⟩ := hh
      obtain ⟨A3, c3, hv, _, _, _, hrd⟩ := own_reads ho
      subst hv
      exact ⟨A3, c3, he, Lib.hid (hrd.mono (fun _ hk _ => hk)), hb⟩)
    have HI := Lib.hid fun W => (obytes4 i W hi32).mono fun e w' hh => (show ∃ A c, e = .returned (.slice A 4 c) ∧ Hid (Reads w' (· < w'.heap.size) A ((be 4 i).map vb)) ∧ Below W.heap.size W w' from by
      obtain ⟨v, he, ho, hb⟩ := hh
      obtain ⟨A3, c3, hv, _, _, _, hrd⟩ := own_reads ho
      subst hv
      exact ⟨A3, c3, he, Lib.hid (hrd.mono (fun _ hk _ => hk)), hb⟩)
    have HVT := Lib.hid (show vb (UInt8.ofNat (capL 2 cs).length) = .int .u8 (n6 : Int) from by
      unfold vb; rw [capL_length, hn6, UInt8.toNat_ofNat', Nat.mod_eq_of_lt (by omega)])
    have HCC := Lib.hid fun (W : World) (gR g1 g2 : Nat) (A2 A3 A4 : Option Addr) (c2 c3 c4 : Nat) (hw : Below w2.heap.size w2 W) (hR : Blk W gR 25 #[.slice (some ⟨g1, 0, none⟩) 1 1, .slice A2 2 c2, .slice A3 2 c3, .slice A4 4 c4, .slice (some ⟨g2, 0, none⟩) 1 1, .slice A6 n6 c6])
        (h1 : Blk W g1 5 #[.int .u8 4]) (h2 : Blk W g2 5 #[.int .u8 (n6 : Int)]) (r2 : Reads W (fun _ => True) A2 ((be 2 a).map vb)) (r3 : Reads W (fun _ => True) A3 ((be 2 h).map vb)) (r4 : Reads W (fun _ => True) A4 ((be 4 i).map vb)) =>
      (concat_u8 (some ⟨gR, 0, none⟩) 6 [⟨some ⟨g1, 0, none⟩, 1, [4]⟩, ⟨A2, c2, be 2 a⟩, ⟨A3, c3, be 2 h⟩, ⟨A4, c4, be 4 i⟩, ⟨some ⟨g2, 0, none⟩, 1, [UInt8.ofNat (capL 2 cs).length]⟩, ⟨A6, c6, capL 2 cs⟩] (fun _ => True) W (by simp) (by simp [flat, be_length, capL_length]; omega)
        ((reads_of_blk (by have hR := hR; rw [← hn6] at hR; exact hR)).mono (fun _ _ _ => trivial)) (fun r hrm' => by
          simp at hrm'
          rcases hrm' with rfl | rfl | rfl | rfl | rfl | rfl
          · exact (reads_of_blk h1).mono (fun _ _ _ => trivial)
          · exact r2
          · exact r3
          · exact r4
          · have := (reads_of_blk h2).mono (G := fun _ => True) (fun _ _ _ => trivial)
            rw [← HVT.out] at this
            exact this
          · exact (RD6.out.below hw (fun _ _ h => h)).mono (fun _ _ _ => trivial))).mono fun e w' hh => (show ∃ v, e = .returned v ∧ Hid (w'.ownsRow w.heap.size 5 1 v op.length (op.map vb)) ∧ Below w2.heap.size w2 w' from by
      obtain ⟨v, he, ho, hb⟩ := hh
      have hf : flat [⟨some ⟨g1, 0, none⟩, 1, [4]⟩, ⟨A2, c2, be 2 a⟩, ⟨A3, c3, be 2 h⟩, ⟨A4, c4, be 4 i⟩, ⟨some ⟨g2, 0, none⟩, 1, [UInt8.ofNat (capL 2 cs).length]⟩, ⟨A6, c6, capL 2 cs⟩] = op := by rw [HPUT.out]; rfl
      rw [hf] at ho
      exact ⟨v, he, Lib.hid (own_mono ho (Nat.le_trans hB2.out.size hw.size)), hw.trans (hb.mono hw.size)⟩)
    have e1 : IntKind.i64.wrap (i : Int) = (i : Int) := IntWalk.i64_in _ (by omega)
    have e2 : IntKind.u8.wrap (n6 : Int) = (n6 : Int) := IntWalk.u8_in _ (by omega)
    have hn6b : 8 ≤ n6 ∧ n6 ≤ 20 := by omega
    clear HPUT RD6 HVT hn6 hcl
    go_wp2_with fail
    go_region_held3 (fun W => (W.cell? ⟨w.heap.size, 1, none⟩ = some (.int .i64 h)) ∧ (W.cell? ⟨w.heap.size, 2, none⟩ = some (.int .u32 i))) (first | exact hk6 | exact hk5 | exact hk4 | exact hk3 | exact hk1 | go_keep) (first | (go_at_call_of 31 (Value.int .i64 (i : Int)); refine (HI.out _).mono ?_; rintro e w5 ⟨A4, c4, rfl, hr5, hc5⟩; have hs5 := hc5.size; (try simp at hs5); have h45 : Below w4.heap.size w4 w5 := Below.trans (by repeat (first | exact Below.refl _ _ | refine Below.drew ?_ | refine Below.alloc ?_ (by first | omega | (simp <;> omega)) _)) (hc5.mono (by first | omega | (simp <;> omega))); have h35 : Below w3.heap.size w3 w5 := h34.trans (h45.mono h34.size); have hb5 : Below w2.heap.size w2 w5 := hb4.trans (h45.mono hb4.size); have hk5 := HK.out w5 hb5) | (go_at_call_of 31 (Value.int .i64 (h : Int)); refine (HH.out _).mono ?_; rintro e w4 ⟨A3, c3, rfl, hr4, hc4⟩; have hs4 := hc4.size; (try simp at hs4); have h34 : Below w3.heap.size w3 w4 := Below.trans (by repeat (first | exact Below.refl _ _ | refine Below.drew ?_ | refine Below.alloc ?_ (by first | omega | (simp <;> omega)) _)) (hc4.mono (by first | omega | (simp <;> omega))); have hb4 : Below w2.heap.size w2 w4 := hb3.trans (h34.mono hb3.size); have hk4 := HK.out w4 hb4) | (go_at_call_of 31 (Value.int .i64 (a : Int)); refine (HA.out _).mono ?_; rintro e w3 ⟨A2, c2, rfl, hr3, hc3⟩; have hs3 := hc3.size; (try simp at hs3); have hb3 : Below w2.heap.size w2 w3 := Below.trans (by repeat (first | exact hb5 | exact hb4 | exact hb3 | exact HB0.out | refine Below.drew ?_ | refine Below.alloc ?_ (by first | omega | (simp <;> omega)) _)) (hc3.mono (by first | omega | (simp <;> omega))); have hk3 := HK.out w3 hb3) | (go_at_call 30; refine (HCC.out _ _ _ _ _ _ _ _ _ _ (by repeat (first | exact hb5 | exact hb4 | exact hb3 | exact HB0.out | refine Below.drew ?_ | refine Below.alloc ?_ (by first | omega | (simp <;> omega)) _)) (by repeat (first | with_reducible exact Blk.new _ _ _ | with_reducible exact Blk.new1 _ _ _ _ | with_reducible exact Blk.newD _ _ _ | with_reducible exact Blk.new1D _ _ _ _ | with_reducible exact Blk.new2 _ _ _ _ _ | with_reducible refine Blk.drew ?_ | with_reducible refine Blk.alloc ?_ _ | with_reducible refine Blk.below ?_ hc5 (by first | omega | (simp <;> omega)) | with_reducible refine Blk.below ?_ hc4 (by first | omega | (simp <;> omega)) | with_reducible refine Blk.below ?_ hc3 (by first | omega | (simp <;> omega)))) (by repeat (first | with_reducible exact Blk.new _ _ _ | with_reducible exact Blk.new1 _ _ _ _ | with_reducible exact Blk.newD _ _ _ | with_reducible exact Blk.new1D _ _ _ _ | with_reducible exact Blk.new2 _ _ _ _ _ | with_reducible refine Blk.drew ?_ | with_reducible refine Blk.alloc ?_ _ | with_reducible refine Blk.below ?_ hc5 (by first | omega | (simp <;> omega)) | with_reducible refine Blk.below ?_ hc4 (by first | omega | (simp <;> omega)) | with_reducible refine Blk.below ?_ hc3 (by first | omega | (simp <;> omega)))) (by repeat (first | with_reducible exact Blk.new _ _ _ | with_reducible exact Blk.new1 _ _ _ _ | with_reducible exact Blk.newD _ _ _ | with_reducible exact Blk.new1D _ _ _ _ | with_reducible exact Blk.new2 _ _ _ _ _ | with_reducible refine Blk.drew ?_ | with_reducible refine Blk.alloc ?_ _ | with_reducible refine Blk.below ?_ hc5 (by first | omega | (simp <;> omega)) | with_reducible refine Blk.below ?_ hc4 (by first | omega | (simp <;> omega)) | with_reducible refine Blk.below ?_ hc3 (by first | omega | (simp <;> omega)))) ((hr3.out.below (B := w3.heap.size) (by repeat (first | exact h35 | refine Below.drew ?_ | refine Below.alloc ?_ (by first | omega | (simp <;> omega)) _)) (fun _ h _ => h)).mono (fun _ _ _ => trivial)) ((hr4.out.below (B := w4.heap.size) (by repeat (first | exact h45 | refine Below.drew ?_ | refine Below.alloc ?_ (by first | omega | (simp <;> omega)) _)) (fun _ h _ => h)).mono (fun _ _ _ => trivial)) ((hr5.out.below (B := w5.heap.size) (by repeat (first | exact Below.refl _ _ | refine Below.drew ?_ | refine Below.alloc ?_ (by first | omega | (simp <;> omega)) _)) (fun _ h _ => h)).mono (fun _ _ _ => trivial))).mono ?_; rintro e w6 ⟨v6, rfl, hO6, hb6⟩; have hk6 := HK.out w6 hb6))
    all_goals (go_wp2_with fail; go_ret2; exact ⟨_, rfl, hO6.out, hB2.out.trans (hb6.mono hB2.out.size)⟩)
end Go.Proofs.YtbmbpcibihddaaaDoor
