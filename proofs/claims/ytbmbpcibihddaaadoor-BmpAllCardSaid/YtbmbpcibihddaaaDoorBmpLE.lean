/-
  What any bytes are, one behind the other: the walk of 'BmpAll'. No condition but that bytes read as data and the table of least lengths as it is laid.
-/
import Derived.Test.YtbmbpcibihddaaaDoorBmpX
import Derived.Test.YtbmbpcibihddaaaDoorBmpY
namespace Go.Proofs.YtbmbpcibihddaaaDoor
open Go.ChangeShapes Go.WideShapes Go.ChangeAt Go.RowKit

theorem monCells_at : ∀ (vs : List MoV) (k : Nat) (hk : k < vs.length) (j : Nat), j < 10 → (monCells vs)[k * 10 + j]? = (vs[k].cells)[j]?
  | v :: vs, 0, _, j, hj => by
    have hl : v.cells.toList.length = 10 := rfl
    simp only [monCells, List.flatMap_cons, Nat.zero_mul, Nat.zero_add, List.getElem_cons_zero]
    rw [List.getElem?_append_left (by omega)]
    simp
  | v :: vs, k + 1, hk, j, hj => by
    have hl : v.cells.toList.length = 10 := rfl
    have ih := monCells_at vs k (by simpa using hk) j hj
    simp only [monCells, List.flatMap_cons, List.getElem_cons_succ] at ih ⊢
    rw [List.getElem?_append_right (by omega), hl, ← ih]
    congr 1
    omega
theorem mon_row {W : World} {B n : Nat} {v : Value} {vs : List MoV} (h : W.ownsRow B 45 10 v n (monCells vs)) : ∃ A c, v = .slice A n c ∧ Reads W (fun k => B ≤ k) A (monCells vs) ∧ n ≤ 9223372036854775807 := by
  rcases h.2 with ⟨rfl, h0⟩ | ⟨g, cap, cur, rfl, hb, hh, hnc, hcm, -⟩
  · have : monCells vs = [] := List.eq_nil_of_length_eq_zero (by have := h.1; omega)
    subst h0
    exact ⟨none, 0, rfl, by rw [this]; exact .nil, by omega⟩
  · refine ⟨_, _, rfl, .inr ⟨g, 0, rfl, hb, Blk.lt (cs := cur) hh, fun j u hj => ?_⟩, by unfold maxLen at hcm; omega⟩
    have := h.cells (g := g) rfl j u hj
    rw [addr_add rfl] at this
    exact this
theorem mon_at {W : World} {F : Nat → Prop} {A : Option Addr} {vs : List MoV} (h : Reads W F A (monCells vs)) (k : Nat) (hk : k < vs.length) : ∃ b off, A = some ⟨b, off, none⟩ ∧ ∀ j u, (vs[k].cells)[j]? = some u → j < 10 → W.cell? ⟨b, off + k * 10 + j, none⟩ = some u := by
  obtain ⟨b, off, hA, -⟩ := h.at_ (k := 0) (by rw [monCells_len]; omega)
  refine ⟨b, off, hA, fun j u hj hj10 => ?_⟩
  have hx : (monCells vs)[k * 10 + j]? = some u := by rw [monCells_at vs k hk j hj10, hj]
  have hlt : k * 10 + j < (monCells vs).length := by rw [monCells_len]; omega
  obtain ⟨b', off', hA', -, -, hc⟩ := h.at_ hlt
  rw [hA] at hA'
  injection hA' with e
  injection e with e1 e2
  subst e1 e2
  rw [List.getElem?_eq_getElem hlt] at hx
  injection hx with hx
  rw [Nat.add_assoc, hc, hx]
set_option maxRecDepth 20000 in
set_option maxHeartbeats 16000000 in
theorem ball_walk (A : Option Addr) (c : Nat) (l : List UInt8) (w : World) (hlc : l.length ≤ c) (hr : Reads w (fun _ => True) A (l.map vb)) (hT : LeastAt w) (hlm : l.length ≤ 9223372036854775807) :
    Calls Tryd.prog 6 #[.slice A l.length c] w fun e w' => e = .returned (.bool true) ∧ Below w.heap.size w w' := by
  have HR := Lib.hid (hr.mono (G := (· < w.heap.size)) (fun _ h _ => h))
  have HT := Lib.hid hT
  by_cases h5 : 5000 < l.length
  · have h5' : (5000 : Int) < (l.length : Int) := by omega
    clear hr hT hlc
    generalize l.length = ll at *
    go_enter Tryd.func6, Tryd.ntmps6
    go_wp2_with fail
    refine (bmp_lives _ HT.out).mono ?_
    rintro e w2 ⟨rfl, hb2⟩
    go_wp2_with fail
    go_ret
    exact ⟨rfl, hb2⟩
  have h5' : ¬ (5000 : Int) < (l.length : Int) := by omega
  have HG := Lib.hid (ball_any A c l _ w hlc (by omega) HR.out HT.out)
  have HG2 := Lib.hid fun (W : World) (hb : Below w.heap.size w W) => rall_any A c l _ W hlc (by omega) (HR.out.below hb (fun _ _ h => h))
  clear hr hT
  cases hg : ball l with
  | none =>
    have HGN := Lib.hid hg
    clear hg
    go_enter Tryd.func6, Tryd.ntmps6
    go_wp2_with fail
    refine HG.out.mono ?_
    rintro e w1 ⟨hno, -, hb1⟩
    have he := hno HGN.out
    subst he
    have HB1 := Lib.hid hb1
    clear hno hb1
    go_wp2_with fail
    refine (HG2.out _ HB1.out).mono ?_
    rintro e w2 ⟨hno, -, hb2⟩
    have he := hno HGN.out
    subst he
    have HB2 := Lib.hid (HB1.out.trans (hb2.mono HB1.out.size))
    clear hno hb2
    go_wp2_with fail
    refine (bmp_lives _ (HT.out.below HB2.out)).mono ?_
    rintro e w3 ⟨rfl, hb3⟩
    have HB3 := Lib.hid (HB2.out.trans (hb3.mono HB2.out.size))
    clear hb3
    go_wp2_with fail
    go_loopw [7] (fun i wr => i = .int .i64 0 ∧ wr = w3) (fun _ _ => 0)
    case atStart => exact ⟨rfl, rfl⟩
    case round =>
      obtain ⟨rfl, rfl⟩ := hrel
      go_wp2_with fail
      go_ret
      exact ⟨rfl, HB3.out⟩
  | some ms =>
    have HGN := Lib.hid hg
    clear hg
    go_enter Tryd.func6, Tryd.ntmps6
    go_wp2_with fail
    refine HG.out.mono ?_
    rintro e w1 ⟨-, hyes, hb1⟩
    obtain ⟨vs, v, hvs, rfl, hown, heach⟩ := hyes _ HGN.out
    obtain ⟨A1, c1, rfl, hrd1, hnm⟩ := mon_row hown
    have HB1 := Lib.hid hb1
    have HRD1 := Lib.hid (hrd1.mono (G := (· < w1.heap.size)) (fun _ h _ => h))
    have HE1 := Lib.hid fun (m : MoV) (hm : m ∈ vs) => (heach m hm).mono (G := (· < w1.heap.size)) (fun _ h _ => h)
    have HVS := Lib.hid hvs
    clear hyes hb1 hown heach hrd1 hvs
    go_wp2_with fail
    refine (HG2.out _ HB1.out).mono ?_
    rintro e w2 ⟨-, hyes, hb2⟩
    obtain ⟨us, v2, hus, rfl, hown, heach⟩ := hyes _ HGN.out
    obtain ⟨A2, c2, rfl, hrd2, -⟩ := mon_row hown
    have HB2 := Lib.hid (HB1.out.trans (hb2.mono HB1.out.size))
    have HB12 := Lib.hid hb2
    have HRD2 := Lib.hid (hrd2.mono (G := (· < w2.heap.size)) (fun _ h _ => h))
    have HE2 := Lib.hid fun (m : MoV) (hm : m ∈ us) => (heach m hm).mono (G := (· < w2.heap.size)) (fun _ h _ => h)
    have HUS := Lib.hid hus
    have hlen : us.length = vs.length := by have h1 := congrArg List.length hus; have h2 := congrArg List.length HVS.out; simp at h1 h2; omega
    have HLEN := Lib.hid hlen
    rw [hlen]
    obtain ⟨N, hN⟩ : ∃ N, vs.length = N := ⟨_, rfl⟩
    rw [hN] at hnm
    rw [hN]
    have HN := Lib.hid hN
    clear hyes hb2 hown heach hrd2 hus hlen hN
    go_wp2_with fail
    refine (bmp_lives _ (HT.out.below HB2.out)).mono ?_
    rintro e w3 ⟨rfl, hb3⟩
    have HB3 := Lib.hid (HB2.out.trans (hb3.mono HB2.out.size))
    have HB13 := Lib.hid (HB12.out.trans (hb3.mono HB12.out.size))
    have HB23 := Lib.hid hb3
    clear hb3
    go_wp2_with fail
    go_loopw [7] (fun i wr => ∃ k : Nat, k ≤ N ∧ i = .int .i64 k ∧ Below w3.heap.size w3 wr) (fun i _ => N - (intOf i).toNat)
    case atStart => exact ⟨0, Nat.zero_le _, rfl, Below.refl _ _⟩
    case round =>
      obtain ⟨k, hk, rfl, hbr⟩ := hrel
      have HBR := Lib.hid hbr
      clear hbr
      by_cases hkl : k < N
      · have hk1 : k < vs.length := by have := HN.out; omega
        have hk2 : k < us.length := by have := HLEN.out; omega
        have HW1 := Lib.hid fun (W : World) (h : Below w3.heap.size w3 W) => HRD1.out.below (HB13.out.trans (h.mono HB13.out.size)) (fun _ _ h => h)
        have HW2 := Lib.hid fun (W : World) (h : Below w3.heap.size w3 W) => HRD2.out.below (HB23.out.trans (h.mono HB23.out.size)) (fun _ _ h => h)
        have hdd : vs[k].d = us[k].d := by
          have h : (vs.map MoV.d)[k]? = (us.map MoV.d)[k]? := by rw [HVS.out, HUS.out]
          simpa [hk1, hk2] using h
        have HX := Lib.hid (HE1.out _ (List.getElem_mem hk1))
        have HY := Lib.hid (HE2.out _ (List.getElem_mem hk2))
        obtain ⟨b1, o1, hA1, -⟩ := mon_at (HW1.out _ (Below.refl _ _)) k hk1
        obtain ⟨b2, o2, hA2, -⟩ := mon_at (HW2.out _ (Below.refl _ _)) k hk2
        subst hA1 hA2
        have HM1 := Lib.hid fun (W : World) (h : Below w3.heap.size w3 W) => (show ∀ j u, (vs[k].cells)[j]? = some u → j < 10 → W.cell? ⟨b1, o1 + k * 10 + j, none⟩ = some u from by
          obtain ⟨b', o', e, hc⟩ := mon_at (HW1.out W h) k hk1
          injection e with e; injection e with e1 e2; subst e1 e2; exact hc)
        have HM2 := Lib.hid fun (W : World) (h : Below w3.heap.size w3 W) => (show ∀ j u, (us[k].cells)[j]? = some u → j < 10 → W.cell? ⟨b2, o2 + k * 10 + j, none⟩ = some u from by
          obtain ⟨b', o', e, hc⟩ := mon_at (HW2.out W h) k hk2
          injection e with e; injection e with e1 e2; subst e1 e2; exact hc)
        have HSM := Lib.hid fun (W : World) (h : Below w3.heap.size w3 W) => rsame_any vs[k] us[k] W _ _ (HX.out.below (HB13.out.trans (h.mono HB13.out.size)) (fun _ _ h => h)) (HY.out.below (HB23.out.trans (h.mono HB23.out.size)) (fun _ _ h => h))
        rw [show decide (vs[k].d = us[k].d) = true from by rw [hdd]; simp] at HSM
        clear hdd HX HY HW1 HW2
        generalize vs[k] = x at *
        generalize us[k] = y at *
        obtain ⟨kind, id, addr, asn, time, reason, own, sA, sc, sent, cA, cc, came, text⟩ := x
        obtain ⟨ykind, yid, yaddr, yasn, ytime, yreason, yown, ysA, ysc, ysent, ycA, ycc, ycame, ytext⟩ := y
        simp only [MoV.val, MoV.cells] at HSM HM1 HM2
        generalize sent.length = sl at *
        generalize came.length = cl at *
        generalize str text = tx at *
        generalize ysent.length = ysl at *
        generalize ycame.length = ycl at *
        generalize str ytext = ytx at *
        have HCS := Lib.hid fun (W : World) (h : Below w3.heap.size w3 W) => (show W.cell? ⟨b1, o1 + k * 10, none⟩ = some (.int .i64 kind) ∧ W.cell? ⟨b1, o1 + k * 10 + 1, none⟩ = some (.int .u32 id) ∧ W.cell? ⟨b1, o1 + k * 10 + 2, none⟩ = some (.int .u32 addr) ∧ W.cell? ⟨b1, o1 + k * 10 + 3, none⟩ = some (.int .i64 asn) ∧ W.cell? ⟨b1, o1 + k * 10 + 4, none⟩ = some (.int .i64 time) ∧ W.cell? ⟨b1, o1 + k * 10 + 5, none⟩ = some (.int .i64 reason) ∧ W.cell? ⟨b1, o1 + k * 10 + 6, none⟩ = some (.int .u32 own) ∧ W.cell? ⟨b1, o1 + k * 10 + 7, none⟩ = some (.slice sA sl sc) ∧ W.cell? ⟨b1, o1 + k * 10 + 8, none⟩ = some (.slice cA cl cc) ∧ W.cell? ⟨b1, o1 + k * 10 + 9, none⟩ = some (.string tx) ∧ W.cell? ⟨b2, o2 + k * 10, none⟩ = some (.int .i64 ykind) ∧ W.cell? ⟨b2, o2 + k * 10 + 1, none⟩ = some (.int .u32 yid) ∧ W.cell? ⟨b2, o2 + k * 10 + 2, none⟩ = some (.int .u32 yaddr) ∧ W.cell? ⟨b2, o2 + k * 10 + 3, none⟩ = some (.int .i64 yasn) ∧ W.cell? ⟨b2, o2 + k * 10 + 4, none⟩ = some (.int .i64 ytime) ∧ W.cell? ⟨b2, o2 + k * 10 + 5, none⟩ = some (.int .i64 yreason) ∧ W.cell? ⟨b2, o2 + k * 10 + 6, none⟩ = some (.int .u32 yown) ∧ W.cell? ⟨b2, o2 + k * 10 + 7, none⟩ = some (.slice ysA ysl ysc) ∧ W.cell? ⟨b2, o2 + k * 10 + 8, none⟩ = some (.slice ycA ycl ycc) ∧ W.cell? ⟨b2, o2 + k * 10 + 9, none⟩ = some (.string ytx) from by
          have hc := HM1.out W h
          have p0 := hc 0 _ rfl (by omega)
          have p1 := hc 1 _ rfl (by omega)
          have p2 := hc 2 _ rfl (by omega)
          have p3 := hc 3 _ rfl (by omega)
          have p4 := hc 4 _ rfl (by omega)
          have p5 := hc 5 _ rfl (by omega)
          have p6 := hc 6 _ rfl (by omega)
          have p7 := hc 7 _ rfl (by omega)
          have p8 := hc 8 _ rfl (by omega)
          have p9 := hc 9 _ rfl (by omega)
          have hc := HM2.out W h
          have q0 := hc 0 _ rfl (by omega)
          have q1 := hc 1 _ rfl (by omega)
          have q2 := hc 2 _ rfl (by omega)
          have q3 := hc 3 _ rfl (by omega)
          have q4 := hc 4 _ rfl (by omega)
          have q5 := hc 5 _ rfl (by omega)
          have q6 := hc 6 _ rfl (by omega)
          have q7 := hc 7 _ rfl (by omega)
          have q8 := hc 8 _ rfl (by omega)
          have q9 := hc 9 _ rfl (by omega)
          exact ⟨p0, p1, p2, p3, p4, p5, p6, p7, p8, p9, q0, q1, q2, q3, q4, q5, q6, q7, q8, q9⟩)
        have HTR := Lib.hid fun (W W' : World) (h : Below w3.heap.size w3 W) (hb : Below W.heap.size W W') => h.trans (hb.mono h.size)
        have hB0 : Below w3.heap.size w3 wr.drew := ⟨HBR.out.os, HBR.out.tape, HBR.out.output, HBR.out.size, HBR.out.block⟩
        have hk0I : (0 : Int) ≤ (k : Int) := by omega
        have hklI : (k : Int) < (N : Int) := by omega
        clear hk1 hk2
        go_upto_region 10 with fail
        refine wp_region_held_drew (S := (fun W => W.cell? ⟨b1, o1 + k * 10, none⟩ = some (.int .i64 kind) ∧ W.cell? ⟨b1, o1 + k * 10 + 1, none⟩ = some (.int .u32 id) ∧ W.cell? ⟨b1, o1 + k * 10 + 2, none⟩ = some (.int .u32 addr) ∧ W.cell? ⟨b1, o1 + k * 10 + 3, none⟩ = some (.int .i64 asn) ∧ W.cell? ⟨b1, o1 + k * 10 + 4, none⟩ = some (.int .i64 time) ∧ W.cell? ⟨b1, o1 + k * 10 + 5, none⟩ = some (.int .i64 reason) ∧ W.cell? ⟨b1, o1 + k * 10 + 6, none⟩ = some (.int .u32 own) ∧ W.cell? ⟨b1, o1 + k * 10 + 7, none⟩ = some (.slice sA sl sc) ∧ W.cell? ⟨b1, o1 + k * 10 + 8, none⟩ = some (.slice cA cl cc) ∧ W.cell? ⟨b1, o1 + k * 10 + 9, none⟩ = some (.string tx) ∧ W.cell? ⟨b2, o2 + k * 10, none⟩ = some (.int .i64 ykind) ∧ W.cell? ⟨b2, o2 + k * 10 + 1, none⟩ = some (.int .u32 yid) ∧ W.cell? ⟨b2, o2 + k * 10 + 2, none⟩ = some (.int .u32 yaddr) ∧ W.cell? ⟨b2, o2 + k * 10 + 3, none⟩ = some (.int .i64 yasn) ∧ W.cell? ⟨b2, o2 + k * 10 + 4, none⟩ = some (.int .i64 ytime) ∧ W.cell? ⟨b2, o2 + k * 10 + 5, none⟩ = some (.int .i64 yreason) ∧ W.cell? ⟨b2, o2 + k * 10 + 6, none⟩ = some (.int .u32 yown) ∧ W.cell? ⟨b2, o2 + k * 10 + 7, none⟩ = some (.slice ysA ysl ysc) ∧ W.cell? ⟨b2, o2 + k * 10 + 8, none⟩ = some (.slice ycA ycl ycc) ∧ W.cell? ⟨b2, o2 + k * 10 + 9, none⟩ = some (.string ytx))) (by kernel_rfl) (HCS.out _ hB0) (fun hHeld => ?_)
        refine wpAnyH_take (i := 0) (v := ?_) (by first | (simp only [List.getElem?_toArray, List.getElem?_cons_zero]; done) | (simp only [List.getElem?_toArray, List.getElem?_cons_zero]; rfl)) (by kernel_rfl) (by kernel_rfl) (by kernel_rfl) (by exact fun _ _ _ h => h) (Or.inl ⟨by rfl, ?_⟩) (by assumption) ?_
        rotate_left
        · (intro w hSw; (try dsimp only at hSw); first | (go_simp; done) | (go_simp; with_reducible rfl))
        simp only [Act.put, List.setIfInBounds_toArray, List.set_cons_zero, List.set_cons_succ]
        refine wpAnyH_take (i := 1) (v := ?_) (by first | (simp only [List.getElem?_toArray, List.getElem?_cons_succ, List.getElem?_cons_zero]; done) | (simp only [List.getElem?_toArray, List.getElem?_cons_succ, List.getElem?_cons_zero]; rfl)) (by kernel_rfl) (by kernel_rfl) (by kernel_rfl) (by exact fun _ _ _ h => h) (Or.inl ⟨by rfl, ?_⟩) (by assumption) ?_
        rotate_left
        · (intro w hSw; (try dsimp only at hSw); first | (go_simp; done) | (go_simp; with_reducible rfl))
        simp only [Act.put, List.setIfInBounds_toArray, List.set_cons_zero, List.set_cons_succ]
        refine wpAnyH_take (i := 2) (v := ?_) (by first | (simp only [List.getElem?_toArray, List.getElem?_cons_succ, List.getElem?_cons_zero]; done) | (simp only [List.getElem?_toArray, List.getElem?_cons_succ, List.getElem?_cons_zero]; rfl)) (by kernel_rfl) (by kernel_rfl) (by kernel_rfl) (by exact fun _ _ _ h => h) (Or.inl ⟨by rfl, ?_⟩) (by assumption) ?_
        rotate_left
        · (intro w hSw; (try dsimp only at hSw); first | (go_simp; done) | (go_simp; with_reducible rfl))
        simp only [Act.put, List.setIfInBounds_toArray, List.set_cons_zero, List.set_cons_succ]
        refine wpAnyH_take (i := 3) (v := ?_) (by first | (simp only [List.getElem?_toArray, List.getElem?_cons_succ, List.getElem?_cons_zero]; done) | (simp only [List.getElem?_toArray, List.getElem?_cons_succ, List.getElem?_cons_zero]; rfl)) (by kernel_rfl) (by kernel_rfl) (by kernel_rfl) (by exact fun _ _ _ h => h) (Or.inl ⟨by rfl, ?_⟩) (by assumption) ?_
        rotate_left
        · (intro w hSw; (try dsimp only at hSw); first | (go_simp; done) | (go_simp; with_reducible rfl))
        simp only [Act.put, List.setIfInBounds_toArray, List.set_cons_zero, List.set_cons_succ]
        refine wpAnyH_take (i := 4) (v := ?_) (by first | (simp only [List.getElem?_toArray, List.getElem?_cons_succ, List.getElem?_cons_zero]; done) | (simp only [List.getElem?_toArray, List.getElem?_cons_succ, List.getElem?_cons_zero]; rfl)) (by kernel_rfl) (by kernel_rfl) (by kernel_rfl) (by exact fun _ _ _ h => h) (Or.inl ⟨by rfl, ?_⟩) (by assumption) ?_
        rotate_left
        · (intro w hSw; (try dsimp only at hSw); first | (go_simp; done) | (go_simp; with_reducible rfl))
        simp only [Act.put, List.setIfInBounds_toArray, List.set_cons_zero, List.set_cons_succ]
        refine wpAnyH_take (i := 5) (v := ?_) (by first | (simp only [List.getElem?_toArray, List.getElem?_cons_succ, List.getElem?_cons_zero]; done) | (simp only [List.getElem?_toArray, List.getElem?_cons_succ, List.getElem?_cons_zero]; rfl)) (by kernel_rfl) (by kernel_rfl) (by kernel_rfl) (by exact fun _ _ _ h => h) (Or.inl ⟨by rfl, ?_⟩) (by assumption) ?_
        rotate_left
        · (intro w hSw; (try dsimp only at hSw); first | (go_simp; done) | (go_simp; with_reducible rfl))
        simp only [Act.put, List.setIfInBounds_toArray, List.set_cons_zero, List.set_cons_succ]
        refine wpAnyH_take (i := 6) (v := ?_) (by first | (simp only [List.getElem?_toArray, List.getElem?_cons_succ, List.getElem?_cons_zero]; done) | (simp only [List.getElem?_toArray, List.getElem?_cons_succ, List.getElem?_cons_zero]; rfl)) (by kernel_rfl) (by kernel_rfl) (by kernel_rfl) (by exact fun _ _ _ h => h) (Or.inl ⟨by rfl, ?_⟩) (by assumption) ?_
        rotate_left
        · (intro w hSw; (try dsimp only at hSw); first | (go_simp; done) | (go_simp; with_reducible rfl))
        simp only [Act.put, List.setIfInBounds_toArray, List.set_cons_zero, List.set_cons_succ]
        refine wpAnyH_take (i := 7) (v := ?_) (by first | (simp only [List.getElem?_toArray, List.getElem?_cons_succ, List.getElem?_cons_zero]; done) | (simp only [List.getElem?_toArray, List.getElem?_cons_succ, List.getElem?_cons_zero]; rfl)) (by kernel_rfl) (by kernel_rfl) (by kernel_rfl) (by exact fun _ _ _ h => h) (Or.inl ⟨by rfl, ?_⟩) (by assumption) ?_
        rotate_left
        · (intro w hSw; (try dsimp only at hSw); first | (go_simp; done) | (go_simp; with_reducible rfl))
        simp only [Act.put, List.setIfInBounds_toArray, List.set_cons_zero, List.set_cons_succ]
        refine wpAnyH_ready (rs := [8]) (by kernel_rfl) (by simp) ?_
        refine AllReadyH.cons (by first | (simp only [List.getElem?_toArray, List.getElem?_cons_succ, List.getElem?_cons_zero]; done) | (simp only [List.getElem?_toArray, List.getElem?_cons_succ, List.getElem?_cons_zero]; rfl)) (fun K hK => ?_) AllReadyH.nil
        go_simp
        refine (HSM.out _ hB0).mono ?_
        rintro e W8 ⟨rfl, hb8⟩
        have hB8 := HTR.out _ _ hB0 hb8
        go_wp2_with fail
        refine hK.out _ _ (HCS.out _ hB8) (fun hHeld => ?_)
        clear hK K
        try simp only [Act.put, List.setIfInBounds_toArray, List.set_cons_zero, List.set_cons_succ]
        refine wpAnyH_take (i := 9) (v := ?_) (by first | (simp only [List.getElem?_toArray, List.getElem?_cons_succ, List.getElem?_cons_zero]; done) | (simp only [List.getElem?_toArray, List.getElem?_cons_succ, List.getElem?_cons_zero]; rfl)) (by kernel_rfl) (by kernel_rfl) (by kernel_rfl) (by exact fun _ _ _ h => h) (Or.inl ⟨by rfl, ?_⟩) (by assumption) ?_
        rotate_left
        · (intro w hSw; (try dsimp only at hSw); first | (go_simp; done) | (go_simp; with_reducible rfl))
        simp only [Act.put, List.setIfInBounds_toArray, List.set_cons_zero, List.set_cons_succ]
        refine wpAnyH_done (by kernel_rfl) ?_ _
        go_wp2_with fail
        go_roundw
        case rel => exact ⟨k + 1, by omega, by go_num, hB8⟩
        case measure => simp [intOf]; omega
      · obtain rfl : k = N := by omega
        go_wp2_with fail
        go_ret
        exact ⟨rfl, HB3.out.trans (HBR.out.mono HB3.out.size)⟩
end Go.Proofs.YtbmbpcibihddaaaDoor
