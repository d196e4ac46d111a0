/-
  Capabilities that count for nothing change nothing: the walk of 'OpenCaps'. Under: the data read as bytes.
-/
import Derived.Test.YtbmbpcibihddaaaOpS
namespace Go.Proofs.Ytbmbpcibihddaaa
open Go.ChangeShapes Go.WideShapes Go.ChangeAt Go.RowKit

theorem own_form' {w : World} {base size n : Nat} {e : TypeId} {v : Value} {xs : List Value} (h : w.ownsRow base e size v n xs) (hn : 0 < n) : ∃ g cap, v = .slice (some ⟨g, 0, none⟩) n cap := by
  rcases h.2 with ⟨_, h0⟩ | ⟨g, cap, _, hv, _⟩
  · omega
  · exact ⟨g, cap, hv⟩
theorem vb_nat (n : Nat) (h : n < 256) : vb (UInt8.ofNat n) = .int .u8 (n : Int) := by unfold vb; rw [u8_nat n h]
/-- the byte at nine is how many stand behind it -/
theorem set_nine (o : OV) (r : List UInt8) (k : UInt8) : (o.put ++ r).set 9 k = 4 :: (be 2 o.as2 ++ (be 2 o.hold.toNat ++ (be 4 o.id ++ (k :: (capL 2 o.caps ++ r))))) := by
  have e : o.put ++ r = (4 :: (be 2 o.as2 ++ (be 2 o.hold.toNat ++ be 4 o.id))) ++ (UInt8.ofNat (capL 2 o.caps).length :: (capL 2 o.caps ++ r)) := by
    rw [OV.put_parts']
    simp
  have hl : (4 :: (be 2 o.as2 ++ (be 2 o.hold.toNat ++ be 4 o.id))).length = 9 := by simp [be_length]
  rw [e, List.set_append_right _ _ (by omega), hl]
  simp
set_option maxRecDepth 20000 in
set_option maxHeartbeats 8000000 in
theorem caps_walk (o : OV) (hi32 : o.id < 4294967296) (code : Int) (A : Option Addr) (cap : Nat) (d : List UInt8) (F : Nat → Prop) (w : World) (hl : d.length ≤ 9223372036854775807) (hr : Reads w F A (d.map vb)) :
    Calls Try.prog 3 #[.agg o.cells, .int .i64 code, .slice A d.length cap] w fun e w' => e = .returned (.bool true) ∧ Below w.heap.size w w' := by
  have hB0 := Blk.new w 24 o.cells
  have hb0 := below_a1 w (.cells o.cells 24)
  have HRC := Lib.hid (orcheck_any o (w.alloc (.cells o.cells 24)))
  have HPT := Lib.hid fun (hok : o.ok = true) W => orput_ok o W hok hi32
  have hpl : o.put.length ≤ 30 ∧ 18 ≤ o.put.length := by have h1 := o.put_length; have h2 := o.caps_length; omega
  have HMORE := Lib.hid fun (hok : o.ok = true) (c : Nat) h1 h2 h3 h4 b hb => put_more o hok hi32 c h1 h2 h3 d h4 b hb
  have HSET := Lib.hid fun r k => set_nine o r k
  have HPL := Lib.hid (show (capL 2 o.caps).length + 10 = o.put.length from by rw [o.put_length, capL_length])
  obtain ⟨ok, hok⟩ : ∃ ok, o.ok = ok := ⟨_, rfl⟩
  rw [hok] at HRC
  have HOK := Lib.hid hok
  clear hok
  have HR0 := Lib.hid (hr.mono (G := (· < w.heap.size)) (fun k hk _ => hk))
  clear hr
  by_cases hg : ok = true ∧ 0 ≤ code ∧ code ≤ 255 ∧ ¬ code = 65 ∧ ¬ code = 69 ∧ d.length ≤ 200
  · obtain ⟨rfl, hc0, hc255, h65, h69, hd200⟩ := hg
    obtain ⟨cd, rfl⟩ : ∃ cd : Nat, code = (cd : Int) := ⟨code.toNat, by omega⟩
    have HPT2 := Lib.hid (HPT.out HOK.out)
    have HM2 := Lib.hid (HMORE.out HOK.out cd (by omega) (by omega) (by omega) hd200)
    obtain ⟨ld, hld⟩ : ∃ ld, d.length = ld := ⟨_, rfl⟩
    have HLD := Lib.hid hld
    have hcd0 : ¬ (cd : Int) < 0 := by omega
    have hcd1 : ¬ (255 : Int) < (cd : Int) := by omega
    have hd1 : ¬ (200 : Int) < (ld : Int) := by omega
    have hld200 : ld ≤ 200 := by omega
    have hb65 : ((cd : Int) == 65) = false := by rw [beq_eq_false_iff_ne]; exact h65
    have hb69 : ((cd : Int) == 69) = false := by rw [beq_eq_false_iff_ne]; exact h69
    obtain ⟨i0, hi, hz0, hz1, hz2⟩ := info_parts infoU8
    obtain ⟨q, hq⟩ : ∃ q, ([2, UInt8.ofNat (d.length + 2), UInt8.ofNat cd, UInt8.ofNat d.length] : List UInt8) = q := ⟨_, rfl⟩
    have HQ := Lib.hid (show q.map vb = [.int .u8 2, .int .u8 ((ld : Int) + 2), .int .u8 (cd : Int), .int .u8 (ld : Int)] from by
      rw [← hq]
      show [vb 2, vb (UInt8.ofNat (d.length + 2)), vb (UInt8.ofNat cd), vb (UInt8.ofNat d.length)] = _
      rw [vb_nat _ (by omega), vb_nat _ (by omega), vb_nat _ (by omega), hld]
      rfl)
    have HQL := Lib.hid (show (q.map vb).length = 4 * 1 by rw [HQ.out]; rfl)
    have hq2 : q ++ d = 2 :: UInt8.ofNat (d.length + 2) :: (UInt8.ofNat cd :: UInt8.ofNat d.length :: d) := by rw [← hq]; rfl
    have hql : q.length = 4 := by rw [← hq]; rfl
    obtain ⟨lp, hlp⟩ : ∃ lp, o.put.length = lp := ⟨_, rfl⟩
    have HLP := Lib.hid hlp
    have HB := Lib.hid (show ∀ (k : UInt8), k = UInt8.ofNat (lp + 4 + ld - 10) → openL ((o.put ++ (q ++ d)).set 9 k) = .inr o from fun k hk => HM2.out _ (by
      have h := HPL.out
      rw [HSET.out, hk, ← hq2]
      have e : (capL 2 o.caps ++ (q ++ d)).length = lp + 4 + ld - 10 := by simp only [List.length_append, hql, hld]; omega
      rw [e]))
    have HDV := Lib.hid (show (d.map vb).length = ld * 1 by rw [List.length_map, hld, Nat.mul_one])
    rw [hlp] at hpl HPT2
    rw [hld]
    clear HMORE HSET HPL HM2 HPT HOK hlp hq hq2 hql hl hd200 hld
    generalize o.put = pb at *
    obtain ⟨asn, hold, id, four, paths⟩ := o
    simp only [OV.val, OV.cells] at *
    have e1 : IntKind.i64.wrap ((ld : Int) + 2) = (ld : Int) + 2 := IntWalk.i64_in _ (by omega)
    have e2 : IntKind.u8.wrap ((ld : Int) + 2) = (ld : Int) + 2 := IntWalk.u8_in _ (by omega)
    have e3 : IntKind.u8.wrap (cd : Int) = (cd : Int) := IntWalk.u8_in _ (by omega)
    have e4 : IntKind.u8.wrap (ld : Int) = (ld : Int) := IntWalk.u8_in _ (by omega)
    go_enter Try.func3, Try.ntmps3
    go_wp2_with fail
    refine HRC.out.mono ?_
    rintro e w1 ⟨rfl, hb1⟩
    have HB1 := Lib.hid (hb0.trans (hb1.mono hb0.size))
    have HN1 := Lib.hid (hB0.below hb1 hB0.lt)
    obtain ⟨y0, y1, y2, y3, y4⟩ := blk5' HN1.out
    clear hb1 hB0 hb0
    go_wp2_with fail
    refine (HPT2.out _).mono ?_
    rintro e w2 ⟨v2, rfl, own2, hb2⟩
    obtain ⟨A2, c2, hv2, _⟩ := own_reads own2
    subst hv2
    have hs1 := HN1.out.lt
    have HB2 := Lib.hid (HB1.out.trans (hb2.mono HB1.out.size))
    have HN2 := Lib.hid (HN1.out.below hb2 hs1)
    have HBL2 := Lib.hid hb2
    have hoB := own_alive own2 (below_a1 w2 (.cells #[.int .u8 2, .int .u8 ((ld : Int) + 2), .int .u8 (cd : Int), .int .u8 (ld : Int)] 5))
    have hbB := hb2.trans ((below_a1 w2 (.cells #[.int .u8 2, .int .u8 ((ld : Int) + 2), .int .u8 (cd : Int), .int .u8 (ld : Int)] 5)).mono hb2.size)
    have hrB : Reads (w2.alloc (.cells #[.int .u8 2, .int .u8 ((ld : Int) + 2), .int .u8 (cd : Int), .int .u8 (ld : Int)] 5)) (fun _ => True) (some ⟨w2.heap.size, 0, none⟩) (q.map vb) := by
      rw [HQ.out]
      exact (reads_of_blk (Blk.new w2 5 #[.int .u8 2, .int .u8 ((ld : Int) + 2), .int .u8 (cd : Int), .int .u8 (ld : Int)])).mono (fun _ _ _ => trivial)
    have HRB := Lib.hid hrB
    clear own2 hb2 hrB y0 y1 y2 y3 y4
    generalize hpx : pb.map vb = px at hoB
    have HPX := Lib.hid hpx
    clear hpx
    go_wp2_with (refine wpList_append_rd _ rfl (.tmp 37) (.tmp 47) 25 rfl w1.heap.size 5 i0 (.int .u8 0) 1 1 Try.underlying25 hi hz0 hz1 hz2 rfl (by omega) (.slice A2 lp c2) lp px (by rfl) hoB (fun _ => True) _ 4 4 (q.map vb) (by rfl) HQL.out HRB.out (vb_one _) (by unfold maxLen; omega) (by omega) hbB.size ?_)
    intro v3 w3 own3 hg3 _
    obtain ⟨A3, c3, hv3, _⟩ := own_reads own3
    subst hv3
    have hb3 := below_append hbB hbB.size hoB hg3
    have HR3 := Lib.hid ((HR0.out.below (HB1.out.trans (hb3.mono HB1.out.size)) (fun _ _ h => h)).mono (G := fun _ => True) (fun _ _ _ => trivial))
    clear hoB hbB hg3
    go_wp2_with (refine wpList_append_rd _ rfl (.tmp 48) (.tmp 49) 25 rfl w1.heap.size 5 i0 (.int .u8 0) 1 1 Try.underlying25 hi hz0 hz1 hz2 rfl (by omega) (.slice A3 (lp + 4) c3) (lp + 4) _ (by rfl) own3 (fun _ => True) A ld cap (d.map vb) (by rfl) HDV.out HR3.out (vb_one _) (by unfold maxLen; omega) (by omega) hb3.size ?_)
    intro v4 w4 own4 hg4 _
    have hb4 := below_append hb3 hb3.size own3 hg4
    obtain ⟨n, hn⟩ : ∃ n, lp + 4 + ld = n := ⟨_, rfl⟩
    have HNN := Lib.hid hn
    have hnb : n ≤ 234 ∧ 18 ≤ n := by omega
    rw [hn] at own4
    clear hn
    obtain ⟨g4, c4, hv4⟩ := own_form' own4 (by omega)
    subst hv4
    have hc9 := own4.cellAt 9 (by omega)
    have hf9 := own4.frozenAt 9
    have hs9 := (own4.stored 9 (vb (UInt8.ofNat (n - 10)))).1
    have hlx : (px ++ (q.map vb ++ d.map vb)).length = n * 1 := own4.1
    have hge : g4 ≥ w1.heap.size := (own4.lt g4 rfl).1
    have hgl : g4 < w4.heap.size := (own4.lt g4 rfl).2
    have hso : Only (fun k => k = g4) w4 (w4.setCell ⟨g4, 9, none⟩ (vb (UInt8.ofNat (n - 10)))) := (Only.refl (fun k => k = g4) w4).setCell (p := ⟨g4, 9, none⟩) (fun _ => rfl) _
    have HW5 := Lib.hid (show Below w.heap.size w (w4.setCell ⟨g4, 9, none⟩ (vb (UInt8.ofNat (n - 10)))) from (HB1.out.trans (hb4.mono HB1.out.size)).trans (hso.below (HB1.out.trans (hb4.mono HB1.out.size)).size (by rintro i rfl; have := HB1.out.size; omega)))
    have HN5 := Lib.hid (show Blk (w4.setCell ⟨g4, 9, none⟩ (vb (UInt8.ofNat (n - 10)))) w.heap.size 24 #[.int .i64 asn, .int .i64 hold, .int .u32 id, .bool four, .int .i64 paths] from (HN1.out.below hb4 hs1).only hso (by intro e; omega))
    have HO5 := Lib.hid (show (w4.setCell ⟨g4, 9, none⟩ (vb (UInt8.ofNat (n - 10)))).ownsRow w1.heap.size 5 1 (.slice (some ⟨g4, 0, none⟩) n c4) n (((pb ++ (q ++ d)).set 9 (UInt8.ofNat (n - 10))).map vb) from by
      rw [List.map_set, List.map_append, List.map_append, HPX.out]
      exact hs9)
    have hvk : vb (UInt8.ofNat (n - 10)) = .int .u8 ((n : Int) - 10) := by rw [vb_nat _ (by omega)]; congr 1; omega
    rw [hvk] at HW5 HN5 HO5
    have e5 : IntKind.i64.wrap ((n : Int) - 10) = (n : Int) - 10 := IntWalk.i64_in _ (by omega)
    have e6 : IntKind.u8.wrap ((n : Int) - 10) = (n : Int) - 10 := IntWalk.u8_in _ (by omega)
    have h9n : (9 : Int) < (n : Int) := by omega
    obtain ⟨u9, hu9⟩ : ∃ u, w4.cell? ⟨g4, 9, none⟩ = some u := by
      rw [hc9]
      exact ⟨_, List.getElem?_eq_getElem (by rw [hlx]; omega)⟩
    obtain ⟨A5, c5, hv5, hlc5, _, _, rd5⟩ := own_reads HO5.out
    have hA5 : some (⟨g4, 0, none⟩ : Addr) = A5 ∧ c4 = c5 := by injection hv5 with h1 _ h3; exact ⟨h1, h3⟩
    obtain ⟨rfl, rfl⟩ := hA5
    have hlen : ((pb ++ (q ++ d)).set 9 (UInt8.ofNat (n - 10))).length = n := by have := HO5.out.1; simpa using this
    have HG := get_yes _ (some ⟨g4, 0, none⟩) c4 _ _ (by rw [hlen]; omega) (by rw [hlen]; exact hlc5) rd5 (HB.out _ (by rw [HNN.out]))
    rw [hlen] at HG
    simp only [OV.cells] at HG
    have HG := Lib.hid HG
    clear hs9 hc9 hlx hso hvk own4 own3 rd5 hlen hv5 hg4
    go_wp2_with fail
    refine HG.out.mono ?_
    rintro e w6 ⟨rfl, hb6⟩
    have HB6 := Lib.hid (HW5.out.trans (hb6.mono HW5.out.size))
    have HN6 := Lib.hid (HN5.out.below hb6 HN5.out.lt)
    clear hb6 HG
    obtain ⟨ha, hb, hc, hd, he⟩ := two_cells w6 #[.int .i64 asn, .int .i64 hold, .int .u32 id, .bool four, .int .i64 paths] #[.int .i64 0, .int .i64 0, .slice none 0 0]
    obtain ⟨wE, hwE⟩ : ∃ wE, ((((w6.alloc (.cells #[.int .i64 0, .int .i64 0, .int .u32 0, .bool false, .int .i64 0] 24)).alloc (.cells #[.int .i64 0, .int .i64 0, .slice none 0 0] 30)).setRow w6.heap.size #[.int .i64 asn, .int .i64 hold, .int .u32 id, .bool four, .int .i64 paths]).setRow (w6.heap.size + 1) #[.int .i64 0, .int .i64 0, .slice none 0 0]) = wE := ⟨_, rfl⟩
    rw [hwE] at hc hd he
    have HWE := Lib.hid hwE
    have HBE := Lib.hid (HB6.out.trans (he.mono HB6.out.size))
    have HNE := Lib.hid (HN6.out.below he HN6.out.lt)
    have HE := Lib.hid hc
    have HF := Lib.hid hd
    clear hc hd he hwE
    go_upto_region 7 with (first | (refine wpList_store_blk (by rfl) 24 (.tmp 8) (.tmp 60) rfl w6.heap.size #[.int .i64 asn, .int .i64 hold, .int .u32 id, .bool four, .int .i64 paths] (by rfl) (by rfl) 24 _ ha (by kernel_rfl) (by rfl) (ov_one _ _ _ _ _) ?_) | (refine wpList_store_blk (by rfl) 30 (.tmp 9) (.tmp 61) rfl (w6.heap.size + 1) #[.int .i64 0, .int .i64 0, .slice none 0 0] (by rfl) (by rfl) 30 _ hb (by kernel_rfl) (by rfl) (note_one _ _ _ _ _) ?_))
    rw [HWE.out]
    go_wp2_with fail
    refine (open_lives _).mono ?_
    rintro e w9 ⟨rfl, hb9⟩
    have HB9 := Lib.hid (HBE.out.trans (hb9.mono HBE.out.size))
    obtain ⟨p0, p1, p2, p3, p4⟩ := blk5' (HNE.out.below hb9 HNE.out.lt)
    obtain ⟨r0, r1, r2, r3, r4⟩ := blk5' (HE.out.below hb9 HE.out.lt)
    have q0 := (HF.out.below hb9 HF.out.lt).cell 0
    simp at q0
    clear hb9 ha hb
    go_wp2_with fail
    go_ret
    exact ⟨rfl, HB9.out⟩
  · have hcase : ok = false ∨ (ok = true ∧ code < 0) ∨ (ok = true ∧ 0 ≤ code ∧ 255 < code) ∨ (ok = true ∧ 0 ≤ code ∧ code ≤ 255 ∧ (code = 65 ∨ code = 69)) ∨ (ok = true ∧ 0 ≤ code ∧ code ≤ 255 ∧ ¬ code = 65 ∧ ¬ code = 69 ∧ 200 < (d.length : Int)) := by
      cases ok <;> simp at hg ⊢
      omega
    clear hg HPT HMORE HSET HOK HPL hpl
    generalize o.put = pb at *
    obtain ⟨asn, hold, id, four, paths⟩ := o
    simp only [OV.val, OV.cells] at *
    rcases hcase with rfl | ⟨rfl, h1⟩ | ⟨rfl, h0, h1⟩ | ⟨rfl, h0, h2, rfl | rfl⟩ | ⟨rfl, h0, h2, h3, h4, h5⟩
    all_goals
      first | (have h0' : ¬ code < 0 := by omega) | skip
      first | (have h2' : ¬ 255 < code := by omega) | skip
      go_enter Try.func3, Try.ntmps3
      go_wp2_with fail
      refine HRC.out.mono ?_
      rintro e w1 ⟨rfl, hb1⟩
      have HB1 := Lib.hid (hb0.trans (hb1.mono hb0.size))
      clear hb1
      go_wp2_with fail
      refine (open_lives _).mono ?_
      rintro e w2 ⟨rfl, hb2⟩
      go_wp2_with fail
      go_ret
      exact ⟨rfl, HB1.out.trans (hb2.mono HB1.out.size)⟩
end Go.Proofs.Ytbmbpcibihddaaa
