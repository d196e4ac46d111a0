/-
  Flow: rooms and wants are put together. No condition but that they read as data.
-/
import Derived.Test.YtpbghlobkdjpiaaDoorFlowF
import Derived.StillTailTactics
import Derived.Deep.RegionHeld3
import Derived.Deep.RegionLaw
namespace Go.Proofs.YtpbghlobkdjpiaaDoor
open Go.ChangeShapes Go.WideShapes Go.ChangeAt Go.RowKit Go.Maps

theorem infoInt : (Tryd.prog.info? 3).map (fun i => (i.zero, i.size, i.bytes)) = some (some (.int .i64 0), 1, 8) := by kernel_rfl
theorem own_alive {W w' : World} {B : Nat} {e : TypeId} {size n : Nat} {v : Value} {xs : List Value} (h : W.ownsRow B e size v n xs) (hb : Below W.heap.size W w') : w'.ownsRow B e size v n xs := own_below h hb (Nat.le_refl _)
theorem reads_of_blk {w : World} {g : Nat} {t : TypeId} {cs : Array Value} (h : Blk w g t cs) : Reads w (· = g) (some ⟨g, 0, none⟩) cs.toList :=
  .inr ⟨g, 0, rfl, rfl, h.lt, fun j u hj => by rw [Nat.zero_add, h.cell]; simpa using hj⟩

theorem one_int (n : Int) : ∀ u ∈ [Value.int .i64 n], u.oneCell' = true := by
  intro u hu
  rw [List.mem_singleton.1 hu]
  rfl
/-- what is put together, while rooms are laid in -/
structure Build1 (w0 w : World) (gb ba bb k : Nat) (rs : List (Int × Int)) : Prop where
  rooms : ∃ A c, Blk w gb 70 #[.slice A k c, .map (some ba), .map (some bb)] ∧ w.ownsRow (gb + 1) 3 1 (.slice A k c) k (((rs.take k).map (·.2)).map (Value.int .i64))
  places : ∃ D, w.ownsMap Tryd.prog 3 (plainElem Tryd.prog 3) ba k D ∧ AtOf D ((ifsOf rs).take k)
  by_ : w.ownsMap Tryd.prog 3 (plainElem (H := Unit) Tryd.prog 3) bb 0 (.map [])
  bel : Below w0.heap.size w0 w
  lo : w0.heap.size ≤ ba
  ab : bb = ba + 1
  bg : gb = ba + 2

/-- .., while wants are laid in -/
structure Build2 (w0 w : World) (gb ba bb k : Nat) (rs : List (Int × Int)) (l : List (Nat × Int)) : Prop where
  rooms : ∃ A c, Blk w gb 70 #[.slice A rs.length c, .map (some ba), .map (some bb)] ∧ w.ownsRow (gb + 1) 3 1 (.slice A rs.length c) rs.length ((rs.map (·.2)).map (Value.int .i64))
  places : ∃ D, w.ownsMap Tryd.prog 3 (plainElem Tryd.prog 3) ba rs.length D ∧ AtOf D (ifsOf rs)
  by_ : ∃ D, w.ownsMap Tryd.prog 3 (plainElem Tryd.prog 3) bb k D ∧ ByOf D l
  bel : Below w0.heap.size w0 w
  lo : w0.heap.size ≤ ba
  ab : bb = ba + 1
  bg : gb = ba + 2
theorem Build1.done {w0 w : World} {gb ba bb : Nat} {rs : List (Int × Int)} (h : Build1 w0 w gb ba bb rs.length rs) : Build2 w0 w gb ba bb 0 rs [] := by
  obtain ⟨A, c, h1, h2⟩ := h.rooms
  obtain ⟨D, h3, h4⟩ := h.places
  rw [List.take_length] at h2
  rw [List.take_of_length_le (by simp [ifsOf])] at h4
  exact ⟨⟨A, c, h1, h2⟩, ⟨D, h3, h4⟩, ⟨_, h.by_, ByOf.nil⟩, h.bel, h.lo, h.ab, h.bg⟩
theorem Build2.graph {w0 w : World} {gb ba bb k : Nat} {rs : List (Int × Int)} {l : List (Nat × Int)} (h : Build2 w0 w gb ba bb k rs l) : Graph w (gb + 1) gb ba bb (ifsOf rs) (rs.map (·.2)) l := by
  obtain ⟨A, c, h1, h2⟩ := h.rooms
  obtain ⟨D, h3, h4⟩ := h.places
  obtain ⟨D', h5, h6⟩ := h.by_
  exact ⟨⟨A, c, by simpa using h1, by simpa using h2⟩, ⟨_, D, h3, h4⟩, ⟨_, D', h5, h6⟩⟩
theorem pairs_take (ifs : List Int) (ws : List WV) (k : Nat) (hk : k < ws.length) : (pairsOf ifs (ws.map WV.fw)).take (k + 1) = (pairsOf ifs (ws.map WV.fw)).take k ++ [(waysTo ifs ws[k].fw.ways, ws[k].n)] := by
  rw [List.take_succ_eq_append_getElem (by simpa [pairsOf] using hk)]
  simp [pairsOf, WV.fw]
theorem build1_step {w0 W2 W3 w4 : World} {gb ba bb k : Nat} {rs : List (Int × Int)} {a n : Int} {Ar A4 : Option Addr} {cr c4 : Nat} {D : DataW Unit} (h2 : rs.take (k + 1) = rs.take k ++ [(a, n)])
    (hW : Below W2.heap.size W2 W3) (hgb : Blk W2 gb 70 #[.slice Ar k cr, .map (some ba), .map (some bb)]) (hown : W3.ownsRow (gb + 1) 3 1 (.slice Ar k cr) k (((rs.take k).map (·.2)).map (Value.int .i64)))
    (hpl : W2.ownsMap Tryd.prog 3 (plainElem Tryd.prog 3) ba (k + 1) D) (hat : AtOf D ((ifsOf rs).take (k + 1))) (hby : W2.ownsMap Tryd.prog 3 (plainElem (H := Unit) Tryd.prog 3) bb 0 (.map [])) (hbel : Below w0.heap.size w0 W2)
    (hlo : w0.heap.size ≤ ba) (hab : bb = ba + 1) (hbg : gb = ba + 2) (hown4 : w4.ownsRow (gb + 1) 3 1 (.slice A4 (k + 1) c4) (k + 1) (((rs.take k).map (·.2)).map (Value.int .i64) ++ [.int .i64 n])) (hg : W3.grownBy w4 (Value.slice Ar k cr).ownBlock) :
    Build1 w0 (w4.setCell ⟨gb, 0, none⟩ (.slice A4 (k + 1) c4)) gb ba bb (k + 1) rs := by
  have hne : ∀ j, some j = (Value.slice Ar k cr).ownBlock → gb + 1 ≤ j := fun j e => (hown.lt j e.symm).1
  have hbW : Below w0.heap.size w0 W3 := hbel.trans (hW.mono hbel.size)
  have hb4 : Below w0.heap.size w0 w4 := hbW.grown hg hbW.size (fun j hj => by have := hne j hj.symm; omega)
  have hG4 : Blk w4 gb 70 #[.slice Ar k cr, .map (some ba), .map (some bb)] := (hgb.below hW hgb.lt).grown hg (fun e => by have := hne gb e; omega)
  refine ⟨⟨A4, c4, by simpa using hG4.set_ 0 (.slice A4 (k + 1) c4), ?_⟩, ⟨D, ?_, hat⟩, ?_, hb4.setCell (by show w0.heap.size ≤ gb; omega) _, hlo, hab, hbg⟩
  · rw [h2]
    simp only [List.map_append, List.map_cons, List.map_nil]
    exact own_only hown4 (S := (· = gb)) ((Only.refl (· = gb) w4).setCell (p := ⟨gb, 0, none⟩) (fun _ => rfl) _) (fun j hj e => by have := (hown4.lt j hj).1; omega)
  · exact ((ownsMap_below hpl hW hpl.lt).kept hg (fun e => by have := hne ba e; omega)).setCell (by show ba ≠ gb; omega) _
  · exact ((ownsMap_below hby hW hby.lt).kept hg (fun e => by have := hne bb e; omega)).setCell (by show bb ≠ gb; omega) _
theorem build2_step {w0 w2 W3 : World} {gb ba bb k px : Nat} {rs : List (Int × Int)} {l : List (Nat × Int)} {c0 s n : Int} {Ar : Option Addr} {cr : Nat} {Da Db : DataW Unit}
    (hgb : Blk w2 gb 70 #[.slice Ar rs.length cr, .map (some ba), .map (some bb)]) (hown : w2.ownsRow (gb + 1) 3 1 (.slice Ar rs.length cr) rs.length ((rs.map (·.2)).map (Value.int .i64)))
    (hpl : w2.ownsMap Tryd.prog 3 (plainElem Tryd.prog 3) ba rs.length Da) (hat : AtOf Da (ifsOf rs)) (hbo : ByOf Db l) (hm : Maps.IsMap Db) (hby : W3.ownsMap Tryd.prog 3 (plainElem Tryd.prog 3) bb (k + 1) (Db.put (.int .i64 px) (.lit (.int .i64 s)))) (hbel : Below w0.heap.size w0 w2)
    (hlo : w0.heap.size ≤ ba) (hab : bb = ba + 1) (hbg : gb = ba + 2) (hg : w2.drew.grownBy W3 (some bb)) (hc0 : DataW.lit (H := Unit) (.int .i64 (byZ l px)) = .lit (.int .i64 c0)) (hs : s = addZ c0 n) :
    Build2 w0 W3 gb ba bb (k + 1) rs (l ++ [(px, n)]) := by
  refine ⟨⟨Ar, cr, hgb.drew.grown hg (fun e => by injection e with e; omega), ?_⟩, ⟨Da, hpl.drew.kept hg (fun e => by injection e with e; omega), hat⟩, ⟨_, hby, ?_⟩, hbel.drew.grown hg hbel.size (fun j hj => by cases hj; omega), hlo, hab, hbg⟩
  · exact own_only hown.drew (S := (· = bb)) ((Only.refl _ _).grown hg (fun j hj _ => (Option.some.inj hj).symm)) (fun j hj e => by have := (hown.lt j hj).1; omega)
  · injection hc0 with hc0
    injection hc0 with _ hc0
    rw [hs, ← hc0]
    exact hbo.snoc hm px n
theorem build_bad {F : Nat → Prop} {w : World} (A A' : Option Addr) (c n' c' : Nat) (rs : List (Int × Int)) (hlen : rs.length ≤ 9223372036854775807) (hr : Reads w F A (roomCells rs)) (hwf : RoomsWf rs) (hok : okR rs = false) :
    Calls Tryd.prog 20 #[.slice A rs.length c, .slice A' n' c'] w fun e w' => e = .returned (.tuple #[.pointer none, .int .i64 1]) ∧ Below w.heap.size w w' := by
  have he : errR rs = 1 := by simp [errR, hok]
  have H := Lib.hid fun (_ : Unit) => check_any A c rs hlen hr hwf
  have HR := Lib.hid hr
  have HWF := Lib.hid hwf
  have HE := Lib.hid he
  clear hok he hwf hr
  go_enter Tryd.func20, Tryd.ntmps20
  go_wp2_with fail
  refine (H.out ()).mono ?_
  rintro e w1 ⟨rfl, hb⟩
  rw [HE.out]
  go_wp2_with fail
  go_ret2
  exact ⟨rfl, hb⟩
theorem build_long {F : Nat → Prop} {w : World} (A A' : Option Addr) (c n' c' : Nat) (rs : List (Int × Int)) (hlen : rs.length ≤ 9223372036854775807) (hr : Reads w F A (roomCells rs)) (hwf : RoomsWf rs) (hok : okR rs = true) (hn : 1024 < n') :
    Calls Tryd.prog 20 #[.slice A rs.length c, .slice A' n' c'] w fun e w' => e = .returned (.tuple #[.pointer none, .int .i64 3]) ∧ Below w.heap.size w w' := by
  have he : errR rs = 0 := by simp [errR, hok]
  have H := Lib.hid fun (_ : Unit) => check_any A c rs hlen hr hwf
  have HR := Lib.hid hr
  have HWF := Lib.hid hwf
  have HE := Lib.hid he
  have hn1 : (1024 : Int) < (n' : Int) := by omega
  clear hok he hwf hr hn
  go_enter Tryd.func20, Tryd.ntmps20
  go_wp2_with fail
  refine (H.out ()).mono ?_
  rintro e w1 ⟨rfl, hb⟩
  rw [HE.out]
  go_wp2_with fail
  go_ret2
  exact ⟨rfl, hb⟩

set_option maxHeartbeats 2000000 in
theorem build_ok {F F' : Nat → Prop} {w : World} (A A' : Option Addr) (c c' : Nat) (rs : List (Int × Int)) (ws : List WV) (hr : Reads w F A (roomCells rs)) (hwf : RoomsWf rs) (hok : okR rs = true)
    (hn : ws.length ≤ 1024) (hrw : Reads w F' A' (wantCells ws)) (hws : ∀ v ∈ ws, v.ok ∧ Reads w F' v.D (optCells v.ds)) :
    Calls Tryd.prog 20 #[.slice A rs.length c, .slice A' ws.length c'] w fun e w' => ∃ gb ba bb, e = .returned (.tuple #[.pointer (some ⟨gb, 0, none⟩), .int .i64 0]) ∧ Graph w' (gb + 1) gb ba bb (ifsOf rs) (rs.map (·.2)) (pairsOf (ifsOf rs) (ws.map WV.fw)) ∧ Below w.heap.size w w' := by
  obtain ⟨i0, hi, hz0, hz1, hz2⟩ := info_parts infoInt
  have he : errR rs = 0 := by simp [errR, hok]
  simp only [okR, Bool.and_eq_true, decide_eq_true_eq] at hok
  have hl10 := hok.2
  have hnd := hok.1.2
  have H := Lib.hid fun (_ : Unit) => check_any A c rs (by omega) hr hwf
  have HR := Lib.hid hr
  have HRW := Lib.hid hrw
  have HWS := Lib.hid hws
  have HWF := Lib.hid hwf
  have HE := Lib.hid he
  have HN := Lib.hid hnd
  have hn1 : ¬ (1024 : Int) < (ws.length : Int) := by omega
  have hmm := @run_makeMap Tryd.prog
  clear hok he hwf hr hnd hrw hws
  go_enter Tryd.func20, Tryd.ntmps20
  go_wp2_with fail
  refine (H.out ()).mono ?_
  rintro e w1 ⟨rfl, hb⟩
  rw [HE.out]
  clear H
  go_wp2_with fail
  obtain ⟨ba, hba⟩ : ∃ ba, ba = w1.heap.size := ⟨_, rfl⟩
  have HBA := Lib.hid hba
  have hb0 : Build1 w (((w1.alloc (.map #[] 0)).alloc (.map #[] 0)).alloc (.cells #[.slice none 0 0, .map (some ba), .map (some (ba + 1))] 70)) (ba + 2) ba (ba + 1) 0 rs := by
    subst hba
    have e1 : (w1.alloc (.map #[] 0)).heap.size = w1.heap.size + 1 := by simp
    have e2 : ((w1.alloc (.map #[] 0)).alloc (.map #[] 0)).heap.size = w1.heap.size + 2 := by simp
    refine ⟨⟨none, 0, ?_, own_nil _ _ _ _⟩, ⟨.map [], ?_, AtOf.nil⟩, ?_, ((hb.alloc hb.size _).alloc (by simp; have := hb.size; omega) _).alloc (by simp; have := hb.size; omega) _, hb.size, rfl, rfl⟩
    · have := Blk.new ((w1.alloc (.map #[] 0)).alloc (.map #[] 0)) 70 #[.slice none 0 0, .map (some w1.heap.size), .map (some (w1.heap.size + 1))]
      rwa [e2] at this
    · exact ((World.ownsMap_made w1 _ _ _).alloc _).alloc _
    · have := World.ownsMap_made (w1.alloc (.map #[] 0)) Tryd.prog 3 (plainElem (H := Unit) Tryd.prog 3)
      rw [e1] at this
      exact this.alloc _
  rw [← hba]
  clear hba HBA
  generalize (((w1.alloc (.map #[] 0)).alloc (.map #[] 0)).alloc (.cells #[.slice none 0 0, .map (some ba), .map (some (ba + 1))] 70)) = W0 at hb0 ⊢
  obtain ⟨gb, hgb⟩ : ∃ gb, gb = ba + 2 := ⟨_, rfl⟩
  obtain ⟨bb, hbb⟩ : ∃ bb, bb = ba + 1 := ⟨_, rfl⟩
  rw [← hgb, ← hbb] at hb0 ⊢
  have hne1 : ¬ gb = ba := by omega
  have hne2 : ¬ ba = gb := by omega
  have hne3 : ¬ gb = bb := by omega
  have hne4 : ¬ bb = gb := by omega
  have hne5 : ¬ ba = bb := by omega
  have hne6 : ¬ bb = ba := by omega
  clear hgb hbb hb
  go_loopw [27] (fun i wr => ∃ k : Nat, k ≤ rs.length ∧ i = .int .i64 k ∧ Build1 w wr gb ba bb k rs) (fun i _ => rs.length - (intOf i).toNat)
  case atStart => exact ⟨0, Nat.zero_le _, rfl, hb0⟩
  case round =>
    obtain ⟨k, hk, rfl, hB⟩ := hrel
    clear hb0
    by_cases hkl : k < rs.length
    · obtain ⟨b, off, rfl, _, hbw, hrg⟩ := HR.out.rangeAt (sz := 2) (by omega) (fun _ _ => rfl) hkl
      have hrg1 : wr.rangeAt b (off + k * 2) [.int .i64 rs[k].1, .int .i64 rs[k].2] := fun j v hj => (hB.bel.cell (p := ⟨b, off + k * 2 + j, none⟩) hbw).trans (hrg j v hj)
      have HT := Lib.hid (ifs_take rs k hkl)
      have HT2 := Lib.hid (List.take_succ_eq_append_getElem hkl)
      have HW := Lib.hid (HWF.out _ (List.getElem_mem hkl))
      have HNI := Lib.hid (show rs[k].1 ∉ (ifsOf rs).take k from fun h => by
        have h1 := List.nodup_append.1 (by have := HN.out; rw [← List.take_append_drop (k + 1) (ifsOf rs), ifs_take rs k hkl] at this; exact (List.nodup_append.1 this).1)
        exact h1.2.2 _ h _ (by simp) rfl)
      clear hrg
      generalize rs[k] = x at *
      obtain ⟨a, n⟩ := x
      simp only at *
      obtain ⟨Ar, cr, hblk, hown⟩ := hB.rooms
      obtain ⟨D, hpl, hat⟩ := hB.places
      have hby := hB.by_
      have hbel := hB.bel
      have hlo := hB.lo
      have HAB := Lib.hid hB.ab
      have HBG := Lib.hid hB.bg
      have HBEL := Lib.hid hbel
      have hc1 := hblk.cell 1
      have hc0 := hblk.cell 0
      simp at hc0 hc1
      go_wp2_with (first | (refine wpList_load_mid rfl 57 (.tmp 30) rfl b (off + k * 2) rfl _ _ hrg1 Tryd.underlying57 rfl (by kernel_rfl) ?_) | (refine wpList_store_new (by rfl) 57 (.tmp 9) (.tmp 31) rfl wr _ #[.int .i64 a, .int .i64 n] (by rfl) (by rfl) (by rfl) (by kernel_rfl) (by rfl) (by rfl) ?_))
      have hX := Blk.new wr 57 #[.int .i64 a, .int .i64 n]
      have hblk1 := hblk.alloc (.cells #[.int .i64 a, .int .i64 n] 57)
      have hown1 := own_alive hown (below_a1 wr (.cells #[.int .i64 a, .int .i64 n] 57))
      have hpl1 := hpl.alloc (.cells #[.int .i64 a, .int .i64 n] 57)
      have hby1 := hby.alloc (.cells #[.int .i64 a, .int .i64 n] 57)
      have hbel1 := hbel.alloc hbel.size (.cells #[.int .i64 a, .int .i64 n] 57)
      obtain ⟨xb, hxb⟩ : ∃ xb, xb = wr.heap.size := ⟨_, rfl⟩
      rw [← hxb] at hX ⊢
      have hxg : ¬ xb = gb := by have := hblk.lt; omega
      have hxa : ¬ xb = ba := by have := hpl.lt; omega
      have hax : ¬ ba = xb := by have := hpl.lt; omega
      have hgx : ¬ gb = xb := by have := hblk.lt; omega
      clear hxb hblk hown hpl hby hbel hc0 hc1 hB HBEL
      generalize wr.alloc (.cells #[.int .i64 a, .int .i64 n] 57) = W1 at *
      have hc1 := hblk1.cell 1
      have hx0 := hX.cell 0
      simp at hx0 hc1
      obtain ⟨W2, hrun, hpl2, hgr2⟩ := (hpl1.drew).update law3 Tryd.underlying68 (by unfold maxLen; omega) (keyOf_int_mk Tryd.underlying3 HW.out.1) (plainElem_int Tryd.underlying3 (show (Lit.int .i64 (k : Int)).wf = true from WalkArith.wf_i64 (by omega)))
      have HAT := Lib.hid (hat.snoc hpl1.isMap HNI.out)
      have hX2 : Blk W2 xb 57 #[.int .i64 a, .int .i64 n] := hX.drew.grown hgr2 (fun e => hxa (by injection e))
      have hblk2 : Blk W2 gb 70 #[.slice Ar k cr, .map (some ba), .map (some bb)] := hblk1.drew.grown hgr2 (fun e => hne1 (by injection e))
      have hown2 := own_only (hown1.drew) (S := (· = ba)) ((Only.refl _ _).grown hgr2 (fun k hk _ => (Option.some.inj hk).symm)) (fun j hj e => by have := (hown1.lt j hj).1; have := HBG.out; omega)
      have hby2 := hby1.drew.kept hgr2 (fun e => hne6 (by injection e))
      have hbel2 := hbel1.drew.grown hgr2 hbel1.size (fun j hj => by cases hj; exact hlo)
      have hk1 : W2.cell? ⟨gb, 1, none⟩ = some (.map (some ba)) := by rw [hblk2.cell 1]; rfl
      have hk0 : W2.cell? ⟨gb, 0, none⟩ = some (.slice Ar k cr) := by rw [hblk2.cell 0]; rfl
      have hx0' : W2.cell? ⟨xb, 0, none⟩ = some (.int .i64 a) := by rw [hX2.cell 0]; rfl
      have hx1' : W2.cell? ⟨xb, 1, none⟩ = some (.int .i64 n) := by rw [hX2.cell 1]; rfl
      have HGB := Lib.hid hblk2
      have HOW := Lib.hid hown2
      have HPL := Lib.hid hpl2
      have HBY := Lib.hid hby2
      have HBE := Lib.hid hbel2
      go_region_held3 (fun W => W.cell? ⟨gb, 1, none⟩ = some (.map (some ba)) ∧ W.cell? ⟨xb, 0, none⟩ = some (.int .i64 a)) (first | exact ⟨hc1, hx0⟩ | exact ⟨hk1, hx0'⟩ | go_keep) (fail)
      clear hblk2 hown2 hpl2 hby2 hbel2 hpl1 hby1 hblk1 hown1 hbel1 hX hX2 hrun hgr2 hc1 hx0
      have bA : Below w.heap.size w (W2.drew.alloc (.cells #[.int .i64 n] 3)) := HBE.out.drew.alloc HBE.out.size _
      have oA : (W2.drew.alloc (.cells #[.int .i64 n] 3)).ownsRow (gb + 1) 3 1 (.slice Ar k cr) k (((rs.take k).map (·.2)).map (Value.int .i64)) := own_alive (W := W2.drew) HOW.out (below_a1 W2.drew _)
      have rA : Reads (W2.drew.alloc (.cells #[.int .i64 n] 3)) (fun _ => True) (some ⟨W2.heap.size, 0, none⟩) [.int .i64 n] := (reads_of_blk (Blk.new W2.drew 3 #[.int .i64 n])).mono (fun _ _ _ => trivial)
      have hfz : W2.frozen? ⟨gb, 0, none⟩ = false := HGB.out.frozen 0
      have hgl := HGB.out.lt
      have hbs : gb + 1 ≤ (W2.drew.alloc (.cells #[.int .i64 n] 3)).heap.size := by simp; omega
      have HKK := Lib.hid fun (w4 : World) (hg : (W2.drew.alloc (.cells #[.int .i64 n] 3)).grownBy w4 (Value.slice Ar k cr).ownBlock) =>
        (show w4.cell? ⟨gb, 0, none⟩ = some (.slice Ar k cr) ∧ w4.frozen? ⟨gb, 0, none⟩ = false from by
          have h4 : Blk w4 gb 70 #[.slice Ar k cr, .map (some ba), .map (some bb)] := (HGB.out.drew.alloc _).grown hg (fun e => by have := (oA.lt gb e.symm).1; omega)
          exact ⟨by rw [h4.cell 0]; rfl, h4.frozen 0⟩)
      go_wp2_with fail
      go_region_law ((refine step_append_rd _ (by rfl) (.tmp 43) (.tmp 46) 35 (by rfl) (gb + 1) 3 i0 (.int .i64 0) 1 8 Tryd.underlying35 hi hz0 hz1 hz2 rfl (by omega) _ k _ (by rfl) oA (fun _ => True) _ 1 1 [.int .i64 n] (by rfl) (by simp) rA (one_int n) (by unfold maxLen; omega) (by omega) hbs ?_; intro v4 w4 hown4 hg4 hloc4; obtain ⟨A4, c4, hv4, _, _, _, _⟩ := own_reads hown4; subst hv4; have hq0 := (HKK.out w4 hg4).1; have hq1 := (HKK.out w4 hg4).2))
      all_goals
        have HST := Lib.hid (build1_step (w0 := w) HT2.out (below_a1 W2.drew (.cells #[.int .i64 n] 3)) HGB.out.drew oA HPL.out.drew (by have := HAT.out; rw [HT.out]; rwa [List.length_take, Nat.min_eq_left (by simp [ifsOf]; omega)] at this) HBY.out.drew HBE.out.drew hlo HAB.out HBG.out hown4 hg4)
        clear hown4 hg4 hq0 hq1 oA rA bA
        go_wp2_with fail
        go_roundw
        case rel => exact ⟨k + 1, by omega, by go_num, HST.out⟩
        case measure => simp [intOf]; omega
    · obtain rfl : k = rs.length := by omega
      go_wp2_with fail
      have hB2 := hB.done
      clear hB
      go_loopw [53] (fun i wr => ∃ k : Nat, k ≤ ws.length ∧ i = .int .i64 k ∧ Build2 w wr gb ba bb k rs ((pairsOf (ifsOf rs) (ws.map WV.fw)).take k)) (fun i _ => ws.length - (intOf i).toNat)
      case atStart => exact ⟨0, Nat.zero_le _, rfl, hB2⟩
      case round =>
        clear hB2
        obtain ⟨k, hk, rfl, hB⟩ := hrel
        by_cases hkl : k < ws.length
        · obtain ⟨b, off, rfl, _, hbw, hrg⟩ := HRW.out.rangeAt (sz := 16) (by omega) (fun v hv => by simpa using (HWS.out v hv).1.size) hkl
          have hrg1 : wr.rangeAt b (off + k * 16) ws[k].cs.toList := fun j v hj => (hB.bel.cell (p := ⟨b, off + k * 16 + j, none⟩) hbw).trans (hrg j v hj)
          have HT := Lib.hid (pairs_take (ifsOf rs) ws k hkl)
          have hv := HWS.out _ (List.getElem_mem hkl)
          clear hrg
          generalize ws[k] = v at *
          have hnum := hv.1.num
          have hsz := hv.1.size
          have hone := Lib.hid hv.1.one
          have hS1 := Lib.hid (show (Tryd.prog.info? 55).map (·.size) = some v.cs.toList.length by rw [Array.length_toList, hsz]; kernel_rfl)
          have hS2 := Lib.hid (show (Tryd.prog.info? 55).map (·.size) = some v.cs.size by rw [hsz]; kernel_rfl)
          have h16 := Lib.hid hsz
          have HV := Lib.hid hv
          clear hsz hv
          obtain ⟨Ar, cr, hblk, hown⟩ := hB.rooms
          obtain ⟨Da, hpl, hat⟩ := hB.places
          obtain ⟨Db, hby, hbo⟩ := hB.by_
          have hbel := hB.bel
          have hlo := hB.lo
          have HAB := Lib.hid hB.ab
          have HBG := Lib.hid hB.bg
          have HAT := Lib.hid hat
          have HBO := Lib.hid hbo
          clear hat hbo hB
          have hX := Blk.new wr 55 v.cs
          have hblk1 := hblk.alloc (.cells v.cs 55)
          have hown1 := own_alive hown (below_a1 wr (.cells v.cs 55))
          have hpl1 := hpl.alloc (.cells v.cs 55)
          have hby1 := hby.alloc (.cells v.cs 55)
          have hbel1 := hbel.alloc hbel.size (.cells v.cs 55)
          obtain ⟨xb, hxb⟩ : ∃ xb, xb = wr.heap.size := ⟨_, rfl⟩
          go_wp2_with (first | (refine wpList_load_mid rfl 55 (.tmp 55) rfl b (off + k * 16) rfl _ _ hrg1 Tryd.underlying55 rfl hS1.out ?_) | (refine wpList_store_new (by rfl) 55 (.tmp 11) (.tmp 56) rfl wr _ v.cs (by rfl) (by rfl) (by rfl) hS2.out (by rw [h16.out]; rfl) hone.out ?_) | (refine wpList_load_blk (by rfl) 55 (.tmp 11) rfl wr.heap.size (by rfl) _ _ _ hX Tryd.underlying55 rfl hS2.out ?_))
          rw [← hxb] at hX ⊢
          have hxg : ¬ xb = gb := by have := hblk.lt; omega
          have hxm : ¬ xb = bb := by have := hby.lt; omega
          have hmx : ¬ bb = xb := by have := hby.lt; omega
          have hgx : ¬ gb = xb := by have := hblk.lt; omega
          clear hxb hblk hown hpl hby hbel
          generalize wr.alloc (.cells v.cs 55) = W1 at *
          refine (ways_any (by rw [hblk1.cell 1]; rfl) hpl1 HAT.out (by simpa [ifsOf] using hl10) v HV.out.1 (HV.out.2.below hbel1 (fun _ h _ => h))).mono ?_
          rintro e w2 ⟨rfl, hb2⟩
          have hblk2 := hblk1.below hb2 hblk1.lt
          have hX2 := hX.below hb2 hX.lt
          have hown2 := own_alive hown1 hb2
          have hpl2 := ownsMap_below hpl1 hb2 hpl1.lt
          have hby2 := ownsMap_below hby1 hb2 hby1.lt
          have hbel2 := hbel1.trans (hb2.mono hbel1.size)
          clear hblk1 hX hown1 hpl1 hby1 hbel1 hb2
          have hpx := waysTo_small (ifsOf rs) (by simpa [ifsOf] using hl10) v.fw.ways
          generalize waysTo (ifsOf rs) v.fw.ways = px at *
          obtain ⟨c0, hrun0, hat0, hwc0⟩ := (hby2.drew).lookup_int law3 Tryd.underlying68 Tryd.underlying3 (zero3 _) (keyOf_int_mk Tryd.underlying3 (show (Lit.int .i64 (px : Int)).wf = true from WalkArith.wf_i64 (by omega)))
          rw [HBO.out.at_] at hat0
          have HC0 := Lib.hid hat0
          obtain ⟨s, hs⟩ : ∃ s, s = addZ c0 v.n := ⟨_, rfl⟩
          have hswf : (Lit.int .i64 s).wf = true := by
            have := nearZ_bd (nearZ c0 + nearZ v.n)
            rw [hs]
            exact WalkArith.wf_i64 (by unfold addZ; omega)
          obtain ⟨W3, hrun, hby3, hgr3⟩ := (hby2.drew).update law3 Tryd.underlying68 (by unfold maxLen; omega) (keyOf_int_mk Tryd.underlying3 (show (Lit.int .i64 (px : Int)).wf = true from WalkArith.wf_i64 (by omega))) (plainElem_int Tryd.underlying3 hswf)
          have hc2 : w2.cell? ⟨gb, 2, none⟩ = some (.map (some bb)) := by rw [hblk2.cell 2]; rfl
          have hx2 : w2.cell? ⟨xb, 2, none⟩ = some (.int .i64 v.n) := by rw [hX2.cell 2]; exact hnum
          have HS := Lib.hid hs
          rw [hs] at hrun
          clear hat0 hs
          go_wp2_with fail
          go_still_tail 14, (by kernel_rfl)
          still_call ((add_any _ _ _).mono (fun _ _ h => ⟨h.1, h.2.symm⟩))
          refine wpStill_nil ?_
          try (change wpList _ _ _ _ _ w2.drew)
          go_wp2_with fail
          have HM := Lib.hid (show Maps.IsMap Db from hby2.isMap)
          have HST := Lib.hid (build2_step (w0 := w) (n := v.n) hblk2 hown2 hpl2 HAT.out HBO.out HM.out hby3 hbel2 hlo HAB.out HBG.out hgr3 HC0.out HS.out)
          clear hby3 hrun hrun0 hblk2 hX2 hown2 hpl2 hby2 hbel2 hgr3
          go_roundw
          case rel => exact ⟨k + 1, by omega, by go_num, by rw [HT.out]; exact HST.out⟩
          case measure => simp [intOf]; omega
        · obtain rfl : k = ws.length := by omega
          have hl : ((pairsOf (ifsOf rs) (ws.map WV.fw)).take ws.length) = pairsOf (ifsOf rs) (ws.map WV.fw) := List.take_of_length_le (by simp [pairsOf])
          rw [hl] at hB
          have HBB := Lib.hid hB
          clear hB hl
          go_wp2_with fail
          go_ret2
          exact ⟨gb, ba, bb, rfl, HBB.out.graph, HBB.out.bel⟩
end Go.Proofs.YtpbghlobkdjpiaaDoor
