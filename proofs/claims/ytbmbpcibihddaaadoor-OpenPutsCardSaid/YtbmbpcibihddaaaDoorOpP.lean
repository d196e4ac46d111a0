/-
  What routers say of themselves: the document's bytes of what may be. No condition.
-/
import Derived.Test.YtbmbpcibihddaaaDoorOpN
import Derived.Deep.DeepCutAuto
import Derived.Deep.CutBlock
namespace Go.Proofs.YtbmbpcibihddaaaDoor
open Go.ChangeShapes Go.WideShapes Go.ChangeAt Go.RowKit

theorem Reads.grown' {w w' : World} {F : Nat → Prop} {A : Option Addr} {xs : List Value} {row : Option Nat} (h : Reads w F A xs) (hg : w.grownBy w' row) (hd : ∀ b, F b → some b ≠ row) : Reads w' F A xs := h.same hg.size fun b hl hf => hg.block b hl (hd b hf)
theorem append_own {e : TypeId} {size n : Nat} {w w' : World} {B : Nat} {v : Value} {xs : List Value} (h : w.ownsRow B e size v n xs) (hg : w.grownBy w' v.ownBlock) {k : Nat} (hk : k < B) (hkw : k < w.heap.size) : w'.heap[k]? = w.heap[k]? :=
  hg.block k hkw (fun he => by have := (h.lt k he.symm).1; omega)
set_option maxRecDepth 10000 in
set_option maxHeartbeats 8000000 in
theorem orput_ok (o : OV) (w : World) (hok : o.ok = true) (hi32 : o.id < 4294967296) :
    Calls Tryd.prog 13 #[o.val] w fun e w' => ∃ v, e = .returned v ∧ w'.ownsRow w.heap.size 5 1 v o.put.length (o.put.map vb) ∧ Below w.heap.size w w' := by
  obtain ⟨g1, g2, -, g3, g4, -, -, -, g5, g6⟩ := OV.ok_iff hok
  obtain ⟨i0, hi, hz0, hz1, hz2⟩ := info_parts infoU8
  have hcl := o.caps_length
  obtain ⟨a, ha⟩ : ∃ a : Nat, o.as2 = a := ⟨_, rfl⟩
  have ha2 : a < 65536 := by rw [← ha]; unfold OV.as2; split <;> omega
  have hA5 : (if 65535 < o.asn then (23456 : Int) else o.asn) = (a : Int) := by rw [← ha]; unfold OV.as2; split <;> simp <;> omega
  have hcaps : o.caps = ([1, 4, 0, 1, 0, 1] ++ if o.four then ([65, 4] ++ be 4 o.asn.toNat) else []) ++ if 0 < o.paths then [69, 4, 0, 1, 1, UInt8.ofNat o.paths.toNat] else [] := by
    unfold OV.caps
    have h4 : ∀ n, (be 4 n).length = 4 := fun n => be_length 4 n
    cases o.four <;> by_cases hp : 0 < o.paths <;> simp [capL, hp, h4]
  have HPUT := Lib.hid (show o.put = ((((([4] ++ be 2 a) ++ be 2 o.hold.toNat) ++ be 4 o.id) ++ [UInt8.ofNat (o.caps.length + 2), 2, UInt8.ofNat o.caps.length]) ++ o.caps) from by
    unfold OV.put
    rw [ha, capL_length]
    generalize UInt8.ofNat (o.caps.length + 2) = q
    simp [capL])
  generalize o.put = op at HPUT ⊢
  generalize o.caps = cs at *
  obtain ⟨asn, hold, i, four, paths⟩ := o
  simp only [OV.val, OV.cells] at *
  obtain ⟨n, rfl⟩ : ∃ n : Nat, asn = (n : Int) := ⟨asn.toNat, by omega⟩
  obtain ⟨h, rfl⟩ : ∃ h : Nat, hold = (h : Int) := ⟨hold.toNat, by omega⟩
  obtain ⟨p, rfl⟩ : ∃ p : Nat, paths = (p : Int) := ⟨paths.toNat, by omega⟩
  simp only [Int.toNat_natCast] at HPUT hcaps
  have HCP := Lib.hid hcaps
  have HA5 := Lib.hid hA5
  clear hok ha hA5 hcaps
  have hb0 := below_a1 w (.cells #[.int .i64 n, .int .i64 h, .int .u32 i, .bool four, .int .i64 p] 24)
  have hN0 := Blk.new w 24 #[.int .i64 n, .int .i64 h, .int .u32 i, .bool four, .int .i64 p]
  obtain ⟨w1, hw1⟩ : ∃ w1, w.alloc (.cells #[.int .i64 n, .int .i64 h, .int .u32 i, .bool four, .int .i64 p] 24) = w1 := ⟨_, rfl⟩
  have HW1 := Lib.hid hw1
  rw [hw1] at hb0 hN0
  have hs1 : w1.heap.size ≤ w.heap.size + 1 ∧ w.heap.size + 1 ≤ w1.heap.size := by rw [← hw1]; simp
  clear hw1
  have HN1 := Lib.hid hN0
  have HB1 := Lib.hid hb0
  clear hN0 hb0
  go_enter Tryd.func13, Tryd.ntmps13
  go_upto_if 9 with fail
  rw [HW1.out]
  go_cut [3] (fun v wx => v = .int .i64 (a : Int) ∧ wx = w1)
  case first =>
    have h5 := HA5.out
    by_cases h65 : (65535 : Int) < n
    · rw [if_pos h65] at h5
      have h5 := Lib.hid h5
      go_wp2_with fail
      go_meet
      exact ⟨by rw [← h5.out], rfl⟩
    · rw [if_neg h65] at h5
      have H5 := Lib.hid h5
      clear h5
      go_wp2_with fail
      go_meet
      exact ⟨by rw [← H5.out], rfl⟩
  case rest =>
    obtain ⟨rfl, rfl⟩ := hcut
    obtain ⟨y0, y1, y2, y3, y4⟩ := blk5' HN1.out
    have hlt1 : w.heap.size < wc.heap.size := by omega
    go_upto_if 12 with fail
    have hBA := Blk.new wc 5 #[.int .u8 1, .int .u8 4, .int .u8 0, .int .u8 1, .int .u8 0, .int .u8 1]
    obtain ⟨wA, hwA⟩ : ∃ wA, wc.alloc (.cells #[.int .u8 1, .int .u8 4, .int .u8 0, .int .u8 1, .int .u8 0, .int .u8 1] 5) = wA := ⟨_, rfl⟩
    have hsA : wA.heap.size ≤ wc.heap.size + 1 ∧ wc.heap.size + 1 ≤ wA.heap.size := by rw [← hwA]; simp
    have hbA : Below wc.heap.size wc wA := by rw [← hwA]; exact below_a1 _ _
    rw [hwA] at hBA
    have HWA := Lib.hid hwA
    clear hwA
    have HoA := Lib.hid (show wA.ownsRow (w.heap.size + 1) 5 1 (.slice (some ⟨wc.heap.size, 0, none⟩) 6 6) 6 (([1, 4, 0, 1, 0, 1] : List UInt8).map vb) from full_own hBA (by omega) rfl (by unfold maxLen; omega))
    have HBA := Lib.hid (HB1.out.trans (hbA.mono HB1.out.size))
    have HNA := Lib.hid (HN1.out.below hbA HN1.out.lt)
    rw [HWA.out]
    obtain ⟨n1, hn1⟩ : ∃ n1, ([1, 4, 0, 1, 0, 1] ++ if four then ([65, 4] ++ be 4 n) else [] : List UInt8).length = n1 := ⟨_, rfl⟩
    have hn12 : (four = true → n1 = 12) ∧ (four = false → n1 = 6) := by constructor <;> intro h <;> subst h <;> rw [← hn1] <;> simp [be_length]
    have HN1L := Lib.hid hn1
    have HN12 := Lib.hid hn12
    clear hBA hbA hn1 hn12 y0 y1 y2 y3 y4
    go_cut [4] (fun v wx => ∃ A c, v = .slice A n1 c ∧ wx.ownsRow (w.heap.size + 1) 5 1 v n1 (([1, 4, 0, 1, 0, 1] ++ if four then ([65, 4] ++ be 4 n) else [] : List UInt8).map vb) ∧ Below w.heap.size w wx ∧ Blk wx w.heap.size 24 #[.int .i64 n, .int .i64 h, .int .u32 i, .bool four, .int .i64 p])
    case first =>
      obtain ⟨y0, y1, y2, y3, y4⟩ := blk5' HNA.out
      cases four with
      | false =>
        have h6 := HN12.out.2 rfl
        subst h6
        go_wp2_with fail
        go_meet
        exact ⟨_, _, rfl, by simpa using HoA.out, HBA.out, HNA.out⟩
      | true =>
        have h12 := HN12.out.1 rfl
        subst h12
        have HPW := Lib.hid fun W => (rput_ok4 n W (by omega)).mono fun e w' hh => (show ∃ A c, e = .returned (.slice A 4 c) ∧ Hid (Reads w' (fun k => W.heap.size ≤ k ∧ k < w'.heap.size) A ((be 4 n).map vb)) ∧ Below W.heap.size W w' from by
          obtain ⟨v, he, ho, hb⟩ := hh
          obtain ⟨A3, c3, hv, _, _, _, hrd⟩ := own_reads ho
          subst hv
          exact ⟨A3, c3, he, Lib.hid (hrd.mono (fun k hk h => ⟨h.1, hk⟩)), hb⟩)
        have HK := Lib.hid fun (W : World) (hb : ∀ k, k < w.heap.size + 1 → W.heap[k]? = wA.heap[k]?) => (show W.cell? ⟨w.heap.size, 0, none⟩ = some (.int .i64 n) from (World.cell?_of_block (w := wA) (hb w.heap.size (by omega))).trans y0)
        have hk1 := y0
        have hlb : ((be 4 n).map vb).length = 4 := by simp [be_length]
        have hlx : (([1, 4, 0, 1, 0, 1] : List UInt8).map vb).length = 6 := by simp
        have HXS := Lib.hid (show (([1, 4, 0, 1, 0, 1] ++ if true = true then ([65, 4] ++ be 4 n) else [] : List UInt8).map vb) = ((([1, 4, 0, 1, 0, 1] : List UInt8).map vb) ++ ([65, 4] : List UInt8).map vb) ++ (be 4 n).map vb from by simp)
        have hsz2 : w.heap.size + 2 ≤ wA.heap.size := by omega
        have hlt2 : w.heap.size < wA.heap.size := by omega
        have hlt3 : wc.heap.size < wA.heap.size := by omega
        have HB0 := Lib.hid (Below.refl wA.heap.size wA)
        clear y0 y1 y2 y3 y4
        go_wp2_with fail
        go_region_held3 (fun W => W.cell? ⟨w.heap.size, 0, none⟩ = some (.int .i64 n)) (first | exact hk4 | exact hk3 | exact hk2 | exact hk1 | go_keep)
          (first | (have own2' := own2; go_at_call 39; refine (HPW.out _).mono ?_; rintro e w3 ⟨A3, c3, rfl, hr3, hc3⟩; have hs3 := hc3.size; (try simp at hs3); have h23 : Below w2.heap.size w2 w3 := Below.trans (by repeat (first | exact Below.refl _ _ | refine Below.drew ?_ | refine Below.alloc ?_ (by first | omega | (simp <;> omega)) _)) (hc3.mono (by first | omega | (simp <;> omega))); have hb3 : Below (w.heap.size + 1) wA w3 := hb2.trans (h23.mono (by have := hb2.size; omega)); have own3 := own_alive own2 h23; have hk3 := HK.out w3 (fun k hk => hb3.block k (by omega))) | (go_at_call 39; refine (HPW.out _).mono ?_; rintro e w3 ⟨A3, c3, rfl, hr3, hc3⟩; have hs3 := hc3.size; (try simp at hs3); have hbs3 : Below wA.heap.size wA w3 := Below.trans (by repeat (first | exact HB0.out | refine Below.drew ?_ | refine Below.alloc ?_ (by first | omega | (simp <;> omega)) _)) (hc3.mono (by first | omega | (simp <;> omega))); have hb3 : Below (w.heap.size + 1) wA w3 := hbs3.mono (by omega); have hk3 := HK.out w3 (fun k hk => hb3.block k (by omega))) | (refine step_append_rd _ (by rfl) (.tmp 13) (.tmp 14) 25 (by rfl) (w.heap.size + 1) 5 i0 (.int .u8 0) 1 1 Tryd.underlying25 hi hz0 hz1 hz2 rfl (by omega) _ 6 (([1, 4, 0, 1, 0, 1] : List UInt8).map vb) (by rfl) (own_alive HoA.out (by repeat (first | exact hbs3 | exact HB0.out | refine Below.drew ?_ | refine Below.alloc ?_ (by first | omega | (simp <;> omega)) _))) (fun _ => True) _ 2 2 (([65, 4] : List UInt8).map vb) (by rfl) (by rfl) ((reads_of_blk (cs := #[.int .u8 65, .int .u8 4]) (t := 5) (by repeat (first | with_reducible exact Blk.new _ _ _ | with_reducible exact Blk.new1 _ _ _ _ | with_reducible exact Blk.newD _ _ _ | with_reducible exact Blk.new1D _ _ _ _ | with_reducible refine Blk.drew ?_ | with_reducible refine Blk.alloc ?_ _ | with_reducible refine Blk.below ?_ hc3 (by first | omega | (simp <;> omega))))).mono (fun _ _ _ => trivial)) (vb_one _) (by unfold maxLen; omega) (by omega) (by first | omega | (simp <;> omega)) ?_; intro v2 w2 own2 hg2 _; have hb2 : Below (w.heap.size + 1) wA w2 := below_append ((show Below wA.heap.size wA _ from by repeat (first | exact hbs3 | exact HB0.out | refine Below.drew ?_ | refine Below.alloc ?_ (by first | omega | (simp <;> omega)) _)).mono (by omega)) (by first | omega | (simp <;> omega)) (own_alive HoA.out (by repeat (first | exact hbs3 | exact HB0.out | refine Below.drew ?_ | refine Below.alloc ?_ (by first | omega | (simp <;> omega)) _))) hg2; have hs2 := hb2.size; (first | (have hr3' : Reads w2 (fun _ => True) A3 ((be 4 n).map vb) := (by refine ((hr3.out.below (B := w3.heap.size) ?_ (fun _ h _ => h.2)).grown' hg2 (fun b h e => ?_)).mono (fun _ _ _ => trivial); focus ((repeat (first | exact Below.refl _ _ | refine Below.drew ?_ | refine Below.alloc ?_ (by first | omega | (simp <;> omega)) _)); done); (simp [Value.ownBlock] at e; omega); done)) | skip); have hk2 := HK.out w2 (fun k hk => hb2.block k (by omega))) | (refine step_append_rd _ (by rfl) (.tmp 15) (.tmp 18) 25 (by rfl) (w.heap.size + 1) 5 i0 (.int .u8 0) 1 1 Tryd.underlying25 hi hz0 hz1 hz2 rfl (by omega) v2 8 ((([1, 4, 0, 1, 0, 1] : List UInt8).map vb) ++ ([65, 4] : List UInt8).map vb) (by rfl) (by first | exact own3 | exact own2) (fun _ => True) A3 4 c3 ((be 4 n).map vb) (by rfl) hlb (by first | exact hr3' | exact hr3.out.mono (fun _ _ _ => trivial)) (vb_one _) (by unfold maxLen; omega) (by omega) (by first | omega | (simp <;> omega)) ?_; intro v4 w4 own4 hg4 _; have hb4 : Below (w.heap.size + 1) wA w4 := (by first | exact below_append hb3 (by first | omega | (simp <;> omega)) own3 hg4 | exact below_append hb2 (by first | omega | (simp <;> omega)) own2 hg4); have hk4 := HK.out w4 (fun k hk => hb4.block k (by omega))) | fail)
        obtain ⟨A4, c4, hv4, _⟩ := own_reads own4
        have hv4 : v4 = .slice A4 12 c4 := hv4
        subst hv4
        have HO4 := Lib.hid (show w4.ownsRow (w.heap.size + 1) 5 1 (.slice A4 12 c4) 12 (([1, 4, 0, 1, 0, 1] ++ if true = true then ([65, 4] ++ be 4 n) else [] : List UInt8).map vb) from by have h := own4; simp at h ⊢; exact h)
        have HB4 := Lib.hid (show Below w.heap.size w w4 from HBA.out.trans (hb4.mono (by omega)))
        have HN4 := Lib.hid (HNA.out.below hb4 (by omega))
        clear own4 hg4
        go_wp2_with fail
        go_meet
        exact ⟨A4, c4, rfl, by simpa using HO4.out, HB4.out, HN4.out⟩
    case rest =>
      obtain ⟨A1, c1, hv1, ho1, hb1, hN1⟩ := hcut
      subst hv1
      generalize ([1, 4, 0, 1, 0, 1] ++ if four then ([65, 4] ++ be 4 n) else [] : List UInt8) = q1 at *
      have hn1v : n1 ≤ 12 := by
        cases four with
        | false => have := HN12.out.2 rfl; omega
        | true => have := HN12.out.1 rfl; omega
      have HO1 := Lib.hid ho1
      have HB1 := Lib.hid hb1
      have HN1 := Lib.hid hN1
      have hlt1 : w.heap.size < wc.heap.size := hN1.lt
      obtain ⟨y0, y1, y2, y3, y4⟩ := blk5' hN1
      clear ho1 hb1 hN1 HoA HBA HNA HWA
      obtain ⟨n2, hn2⟩ : ∃ n2, cs.length = n2 := ⟨_, rfl⟩
      have HN2L := Lib.hid hn2
      rw [hn2] at hcl HPUT
      clear hn2
      go_upto_if 22 with fail
      go_cut [4] (fun v wx => ∃ A c, v = .slice A n2 c ∧ wx.ownsRow (w.heap.size + 1) 5 1 v n2 (cs.map vb) ∧ Below w.heap.size w wx ∧ Blk wx w.heap.size 24 #[.int .i64 n, .int .i64 h, .int .u32 i, .bool four, .int .i64 p])
      case first =>
        by_cases hp : (0 : Int) < (p : Int)
        · have hcs : cs = q1 ++ [69, 4, 0, 1, 1, UInt8.ofNat p] := HCP.out.trans (by rw [if_pos hp])
          have HCS := Lib.hid hcs
          have hn21 : n2 = n1 + 6 := by rw [← HN2L.out, hcs, List.length_append, HN1L.out]; rfl
          have HN21 := Lib.hid hn21
          have e2 : IntKind.u8.wrap (p : Int) = (p : Int) := IntWalk.u8_in _ (by omega)
          have hvp : vb (UInt8.ofNat p) = .int .u8 p := by unfold vb; rw [UInt8.toNat_ofNat', Nat.mod_eq_of_lt (by omega)]
          have hr6 : Reads (wc.alloc (.cells #[.int .u8 69, .int .u8 4, .int .u8 0, .int .u8 1, .int .u8 1, .int .u8 p] 5)) (fun _ => True) (some ⟨wc.heap.size, 0, none⟩) (([69, 4, 0, 1, 1, UInt8.ofNat p] : List UInt8).map vb) := by
            have hx := (reads_of_blk (Blk.new wc 5 #[.int .u8 69, .int .u8 4, .int .u8 0, .int .u8 1, .int .u8 1, .int .u8 p])).mono (G := fun _ => True) (fun _ _ _ => trivial)
            show Reads _ _ _ [vb 69, vb 4, vb 0, vb 1, vb 1, vb (UInt8.ofNat p)]
            rw [hvp]
            exact hx
          have ho6 := own_alive HO1.out (below_a1 wc (.cells #[.int .u8 69, .int .u8 4, .int .u8 0, .int .u8 1, .int .u8 1, .int .u8 p] 5))
          have hb6 := HB1.out.trans ((below_a1 wc (.cells #[.int .u8 69, .int .u8 4, .int .u8 0, .int .u8 1, .int .u8 1, .int .u8 p] 5)).mono HB1.out.size)
          have HN6 := Lib.hid (HN1.out.alloc (.cells #[.int .u8 69, .int .u8 4, .int .u8 0, .int .u8 1, .int .u8 1, .int .u8 p] 5))
          have hs6 : w.heap.size + 1 ≤ (wc.alloc (.cells #[.int .u8 69, .int .u8 4, .int .u8 0, .int .u8 1, .int .u8 1, .int .u8 p] 5)).heap.size := by simp; omega
          obtain ⟨q2, hq2⟩ : ∃ q2, ([69, 4, 0, 1, 1, UInt8.ofNat p] : List UInt8) = q2 := ⟨_, rfl⟩
          have hq26 : q2.length = 6 := by rw [← hq2]; rfl
          have HQ26 := Lib.hid (show (q2.map vb).length = 6 * 1 by rw [List.length_map, hq26])
          rw [hq2] at hr6 HCS
          have HR6 := Lib.hid hr6
          clear hcs hn21 hvp hq2 hq26 hr6
          go_wp2_with (refine wpList_append_rd _ rfl (.tmp 23) (.tmp 27) 25 rfl (w.heap.size + 1) 5 i0 (.int .u8 0) 1 1 Tryd.underlying25 hi hz0 hz1 hz2 rfl (by omega) (.slice A1 n1 c1) n1 _ (by rfl) ho6 (fun _ => True) _ 6 6 (q2.map vb) (by rfl) HQ26.out HR6.out (vb_one _) (by unfold maxLen; omega) (by omega) hs6 ?_)
          intro v8 w8 own8 hg8 _
          have hb8 := Lib.hid (below_append hb6 hb6.size (own_mono ho6 (Nat.le_succ _)) hg8)
          have HN8 := Lib.hid (HN6.out.grown hg8 (fun e => by have := (ho6.lt w.heap.size e.symm).1; omega))
          obtain ⟨A8, c8, hv8, _⟩ := own_reads own8
          subst hv8
          have HO8 := Lib.hid (show w8.ownsRow (w.heap.size + 1) 5 1 (.slice A8 (n1 + 6) c8) (n1 + 6) (cs.map vb) from by rw [HCS.out, List.map_append]; exact own8)
          clear own8 hg8 ho6 hb6
          go_wp2_with fail
          go_meet
          refine ⟨A8, c8, by rw [HN21.out], ?_, hb8.out, HN8.out⟩
          rw [HN21.out]
          exact HO8.out
        · have hcs : cs = q1 := HCP.out.trans (by rw [if_neg hp, List.append_nil])
          have HCS := Lib.hid hcs
          have hn21 : n1 = n2 := by rw [← HN2L.out, hcs, HN1L.out]
          subst hn21
          clear hcs
          go_wp2_with fail
          go_meet
          exact ⟨A1, c1, rfl, by rw [HCS.out]; exact HO1.out, HB1.out, HN1.out⟩
      case rest =>
        obtain ⟨A2, c2, hv2, ho2, hb2, hN2⟩ := hcut
        subst hv2
        have HNF := Lib.hid fun W (hb : Below wc.heap.size wc W) => blk5' (hN2.below hb hN2.lt)
        have HOC := Lib.hid ho2
        have HBC := Lib.hid hb2
        obtain ⟨AC, cC, hvC, _, _, _, rdc⟩ := own_reads ho2
        have hAC : A2 = AC ∧ c2 = cC := by injection hvC with h1 _ h3; exact ⟨h1, h3⟩
        obtain ⟨rfl, rfl⟩ := hAC
        have HRC := Lib.hid (rdc.mono (G := (· < wc.heap.size)) (fun k hk _ => hk))
        have HQ4 := Lib.hid (show ((cs.map vb).length = n2 * 1) by rw [List.length_map, HN2L.out, Nat.mul_one])
        have hbk := below_a1 wc (.cells #[.int .u8 4] 5)
        have HOW0 := Lib.hid (show (wc.alloc (.cells #[.int .u8 4] 5)).ownsRow wc.heap.size 5 1 (.slice (some ⟨wc.heap.size, 0, none⟩) 1 1) 1 (([4] : List UInt8).map vb) from full_own (Blk.new wc 5 #[.int .u8 4]) (Nat.le_refl _) rfl (by unfold maxLen; omega))
        have HBW0 := Lib.hid hbk
        have e3 : IntKind.i64.wrap (i : Int) = (i : Int) := IntWalk.i64_in _ (by omega)
        have e4 : IntKind.i64.wrap ((n2 : Int) + 2) = ((n2 : Int) + 2) := IntWalk.i64_in _ (by omega)
        have e5 : IntKind.u8.wrap ((n2 : Int) + 2) = ((n2 : Int) + 2) := IntWalk.u8_in _ (by omega)
        have e6 : IntKind.u8.wrap (n2 : Int) = (n2 : Int) := IntWalk.u8_in _ (by omega)
        obtain ⟨y0, y1, y2, y3, y4⟩ := HNF.out wc (Below.refl _ _)
        generalize hx4 : (([4] : List UInt8).map vb) = x4 at HOW0
        have HX4 := Lib.hid hx4
        clear ho2 hb2 hN2 rdc hvC hbk HO1 HB1 HN1 hx4
        go_wp2_with fail
        refine (rput_ok2 a _ (by omega)).mono ?_
        rintro e w3 ⟨v3, rfl, own3, hb3⟩
        have HBW3 := Lib.hid (HBW0.out.trans (hb3.mono HBW0.out.size))
        have HOW3 := Lib.hid (own_alive HOW0.out hb3)
        obtain ⟨A3, c3, hv3, _, _, _, rd3⟩ := own_reads own3
        have hv3 : v3 = .slice A3 2 c3 := hv3
        subst hv3
        have rd3 : Reads w3 (fun _ => True) A3 ((be 2 a).map vb) := rd3.mono (fun _ _ _ => trivial)
        obtain ⟨y0, y1, y2, y3, y4⟩ := HNF.out w3 HBW3.out
        clear own3 hb3 HOW0
        go_wp2_with (refine wpList_append_rd _ rfl (.tmp 29) (.tmp 31) 25 rfl wc.heap.size 5 i0 (.int .u8 0) 1 1 Tryd.underlying25 hi hz0 hz1 hz2 rfl (by omega) _ 1 _ (by rfl) HOW3.out (fun _ => True) A3 2 c3 ((be 2 a).map vb) (by rfl) (by rw [List.length_map, be_length]) rd3 (vb_one _) (by unfold maxLen; omega) (by omega) HBW3.out.size ?_)
        intro v4 w4 own4 hg4 _
        have HBW4 := Lib.hid (below_append HBW3.out HBW3.out.size HOW3.out hg4)
        obtain ⟨A4, c4, hv4, _⟩ := own_reads own4
        have hv4 : v4 = .slice A4 3 c4 := hv4
        subst hv4
        have HOW4 := Lib.hid own4
        obtain ⟨y0, y1, y2, y3, y4⟩ := HNF.out w4 HBW4.out
        clear own4 hg4 rd3 HOW3
        go_wp2_with fail
        refine (rput_ok2 h _ (by omega)).mono ?_
        rintro e w5 ⟨v5, rfl, own5, hb5⟩
        have HBW5 := Lib.hid (HBW4.out.trans (hb5.mono HBW4.out.size))
        have HOW5 := Lib.hid (own_alive HOW4.out hb5)
        obtain ⟨A5, c5, hv5, _, _, _, rd5⟩ := own_reads own5
        have hv5 : v5 = .slice A5 2 c5 := hv5
        subst hv5
        have rd5 : Reads w5 (fun _ => True) A5 ((be 2 h).map vb) := rd5.mono (fun _ _ _ => trivial)
        obtain ⟨y0, y1, y2, y3, y4⟩ := HNF.out w5 HBW5.out
        clear own5 hb5 HOW4
        go_wp2_with (refine wpList_append_rd _ rfl (.tmp 33) (.tmp 36) 25 rfl wc.heap.size 5 i0 (.int .u8 0) 1 1 Tryd.underlying25 hi hz0 hz1 hz2 rfl (by omega) _ 3 _ (by rfl) HOW5.out (fun _ => True) A5 2 c5 ((be 2 h).map vb) (by rfl) (by rw [List.length_map, be_length]) rd5 (vb_one _) (by unfold maxLen; omega) (by omega) HBW5.out.size ?_)
        intro v6 w6 own6 hg6 _
        have HBW6 := Lib.hid (below_append HBW5.out HBW5.out.size HOW5.out hg6)
        obtain ⟨A6, c6, hv6, _⟩ := own_reads own6
        have hv6 : v6 = .slice A6 5 c6 := hv6
        subst hv6
        have HOW6 := Lib.hid own6
        obtain ⟨y0, y1, y2, y3, y4⟩ := HNF.out w6 HBW6.out
        clear own6 hg6 rd5 HOW5
        go_wp2_with fail
        refine (rput_ok4 i _ (by omega)).mono ?_
        rintro e w7 ⟨v7, rfl, own7, hb7⟩
        have HBW7 := Lib.hid (HBW6.out.trans (hb7.mono HBW6.out.size))
        have HOW7 := Lib.hid (own_alive HOW6.out hb7)
        obtain ⟨A7, c7, hv7, _, _, _, rd7⟩ := own_reads own7
        have hv7 : v7 = .slice A7 4 c7 := hv7
        subst hv7
        have rd7 : Reads w7 (fun _ => True) A7 ((be 4 i).map vb) := rd7.mono (fun _ _ _ => trivial)
        obtain ⟨y0, y1, y2, y3, y4⟩ := HNF.out w7 HBW7.out
        clear own7 hb7 HOW6
        go_wp2_with (refine wpList_append_rd _ rfl (.tmp 38) (.tmp 42) 25 rfl wc.heap.size 5 i0 (.int .u8 0) 1 1 Tryd.underlying25 hi hz0 hz1 hz2 rfl (by omega) _ 5 _ (by rfl) HOW7.out (fun _ => True) A7 4 c7 ((be 4 i).map vb) (by rfl) (by rw [List.length_map, be_length]) rd7 (vb_one _) (by unfold maxLen; omega) (by omega) HBW7.out.size ?_)
        intro v8 w8 own8 hg8 _
        have HBW8 := Lib.hid (below_append HBW7.out HBW7.out.size HOW7.out hg8)
        obtain ⟨A8, c8, hv8, _⟩ := own_reads own8
        have hv8 : v8 = .slice A8 9 c8 := hv8
        subst hv8
        have HOW8 := Lib.hid own8
        clear own8 hg8 rd7 HOW7 y0 y1 y2 y3 y4
        have hvn : vb (UInt8.ofNat n2) = .int .u8 n2 := by unfold vb; rw [UInt8.toNat_ofNat', Nat.mod_eq_of_lt (by omega)]
        have hvn2 : vb (UInt8.ofNat (n2 + 2)) = .int .u8 ((n2 : Int) + 2) := by unfold vb; rw [UInt8.toNat_ofNat', Nat.mod_eq_of_lt (by omega)]; rfl
        have hr9 : Reads (w8.alloc (.cells #[.int .u8 ((n2 : Int) + 2), .int .u8 2, .int .u8 n2] 5)) (fun _ => True) (some ⟨w8.heap.size, 0, none⟩) (([UInt8.ofNat (n2 + 2), 2, UInt8.ofNat n2] : List UInt8).map vb) := by
          have hx := (reads_of_blk (Blk.new w8 5 #[.int .u8 ((n2 : Int) + 2), .int .u8 2, .int .u8 n2])).mono (G := fun _ => True) (fun _ _ _ => trivial)
          show Reads _ _ _ [vb (UInt8.ofNat (n2 + 2)), vb 2, vb (UInt8.ofNat n2)]
          rw [hvn, hvn2]
          exact hx
        obtain ⟨q3, hq3⟩ : ∃ q3, ([UInt8.ofNat (n2 + 2), 2, UInt8.ofNat n2] : List UInt8) = q3 := ⟨_, rfl⟩
        have HQ33 := Lib.hid (show (q3.map vb).length = 3 * 1 by rw [← hq3]; rfl)
        rw [hq3] at hr9 HPUT
        have HR9 := Lib.hid hr9
        have HOW9 := Lib.hid (own_alive HOW8.out (below_a1 w8 (.cells #[.int .u8 ((n2 : Int) + 2), .int .u8 2, .int .u8 n2] 5)))
        have HBW9 := Lib.hid (HBW8.out.alloc HBW8.out.size (.cells #[.int .u8 ((n2 : Int) + 2), .int .u8 2, .int .u8 n2] 5))
        clear hr9 hvn hvn2 hq3 HOW8
        go_wp2_with (refine wpList_append_rd _ rfl (.tmp 44) (.tmp 52) 25 rfl wc.heap.size 5 i0 (.int .u8 0) 1 1 Tryd.underlying25 hi hz0 hz1 hz2 rfl (by omega) _ 9 _ (by rfl) HOW9.out (fun _ => True) _ 3 3 (q3.map vb) (by rfl) HQ33.out HR9.out (vb_one _) (by unfold maxLen; omega) (by omega) HBW9.out.size ?_)
        intro v10 w10 own10 hg10 _
        have HBW10 := Lib.hid (below_append HBW9.out HBW9.out.size HOW9.out hg10)
        obtain ⟨A10, c10, hv10, _⟩ := own_reads own10
        have hv10 : v10 = .slice A10 12 c10 := hv10
        subst hv10
        have HOW10 := Lib.hid own10
        have HRC10 := Lib.hid ((HRC.out.below HBW10.out (fun _ _ h => h)).mono (G := fun _ => True) (fun _ _ _ => trivial))
        clear own10 hg10 HOW9
        go_wp2_with (refine wpList_append_rd _ rfl (.tmp 53) (.tmp 54) 25 rfl wc.heap.size 5 i0 (.int .u8 0) 1 1 Tryd.underlying25 hi hz0 hz1 hz2 rfl (by omega) _ 12 _ (by rfl) HOW10.out (fun _ => True) A2 n2 c2 (cs.map vb) (by rfl) HQ4.out HRC10.out (vb_one _) (by unfold maxLen; omega) (by omega) HBW10.out.size ?_)
        intro v11 w11 own11 hg11 _
        have HBW11 := Lib.hid (below_append HBW10.out HBW10.out.size HOW10.out hg11)
        obtain ⟨A11, c11, hv11, _⟩ := own_reads own11
        have hv11 : v11 = .slice A11 (12 + n2) c11 := hv11
        subst hv11
        have hlen : op.length = 12 + n2 := by
          have h1 := HQ33.out
          rw [List.length_map] at h1
          rw [HPUT.out]
          simp [be_length, HN2L.out]
          omega
        have HL := Lib.hid hlen
        have HO11 := Lib.hid (show w11.ownsRow wc.heap.size 5 1 (.slice A11 (12 + n2) c11) (12 + n2) (op.map vb) from by
          have h := own11
          rw [← HX4.out] at h
          rw [HPUT.out]

          simpa only [List.map_append, List.append_assoc] using h)
        clear own11 hg11 hlen
        go_wp2_with fail
        go_ret
        exact ⟨_, rfl, by rw [HL.out]; exact own_mono HO11.out HBC.out.size, HBC.out.trans (HBW11.out.mono HBC.out.size)⟩
end Go.Proofs.YtbmbpcibihddaaaDoor
