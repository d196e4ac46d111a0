/-
  Loads are the document's loads, call by call: the walk of 'LoadDoes'. Under: the calls read as data.
-/
import Derived.Test.YtneablcgcdmgpaaLoadH
import Derived.Deep.DeepCutAuto
import Derived.Deep.CutBlock
import Derived.Deep.RegionWith
namespace Go.Proofs.Ytneablcgcdmgpaa
open Go.ChangeShapes Go.WideShapes Go.ChangeAt Go.RowKit Go.Maps

/-- one call: its kind, its interface, how much -/
structure LOp where
  k : Int
  i : Int
  n : Int
def LOp.cells (r : LOp) : List Value := [.int .i64 r.k, .int .i64 r.i, .int .i64 r.n]
structure OpsIn (w : World) (A : Option Addr) (l : List LOp) : Prop where
  len : l.length ≤ 9223372036854775807
  rd : Reads w (fun _ => True) A (l.flatMap LOp.cells)
  wf : ∀ r ∈ l, (Lit.int .i64 r.i).wf = true
theorem op_at {w w' : World} {A : Option Addr} {l : List LOp} (h : OpsIn w A l) (hb : Below w.heap.size w w') {k : Nat} (hk : k < l.length) :
    ∃ b off, A = some ⟨b, off, none⟩ ∧ w'.rangeAt b (off + k * 3) [.int .i64 l[k].k, .int .i64 l[k].i, .int .i64 l[k].n] := by
  obtain ⟨b, off, e, _, hl, hrg⟩ := Reads.rangeAt (f := LOp.cells) (sz := 3) h.rd (by omega) (fun _ _ => rfl) hk
  exact ⟨b, off, e, fun j v hj => (hb.cell (p := ⟨b, off + k * 3 + j, none⟩) hl).trans (hrg j v hj)⟩
def LD.does (x : LD) (r : LOp) : LD := if r.k = 1 then x.add r.i r.n else if r.k = 2 then x.sub r.i r.n else x
theorem LD.len_does {x : LD} (h : x.ok) (r : LOp) : (x.does r).s.length ≤ x.s.length + 1 := by
  unfold LD.does
  split
  · exact LD.len_add x h _ _
  · split
    · exact LD.len_sub x h _ _
    · omega
/-- the loads and the document's, apart, with the same in them -/
structure Both (w0 wr : World) (B g b h m : Nat) (x : LD) : Prop where
  la : LoadsAt wr g b m x
  ra : RefAt wr (fun k => B ≤ k) h x
  ok : x.ok
  lo : w0.heap.size ≤ g ∧ w0.heap.size ≤ b ∧ w0.heap.size ≤ h
  up : g < B ∧ b < B ∧ B ≤ wr.heap.size
  ap : h ≠ g ∧ h ≠ b
  bel : Below w0.heap.size w0 wr
theorem Both.hi {w0 wr : World} {B g b h m : Nat} {x : LD} (o : Both w0 wr B g b h m x) : h < B := by
  have := o.ra.off
  omega
theorem Both.below {w0 wr W : World} {B g b h m : Nat} {x : LD} (o : Both w0 wr B g b h m x) (hb : Below wr.heap.size wr W) : Both w0 W B g b h m x :=
  ⟨o.la.below hb, o.ra.below hb, o.ok, o.lo, ⟨o.up.1, o.up.2.1, Nat.le_trans o.up.2.2 hb.size⟩, o.ap, o.bel.trans (hb.mono o.bel.size)⟩
/-- the loads have turned -/
structure Half (w0 wr : World) (B g b h m : Nat) (x y : LD) : Prop where
  la : LoadsAt wr g b m y
  ra : RefAt wr (fun k => B ≤ k) h x
  ok : x.ok
  lo : w0.heap.size ≤ g ∧ w0.heap.size ≤ b ∧ w0.heap.size ≤ h
  up : g < B ∧ b < B ∧ B ≤ wr.heap.size
  ap : h ≠ g ∧ h ≠ b
  bel : Below w0.heap.size w0 wr
theorem Both.half {w0 wr W : World} {B g b h m m' : Nat} {x y : LD} (o : Both w0 wr B g b h m x) (hl : LoadsAt W g b m' y) (ho : Only (fun k => k = g ∨ k = b) wr W) : Half w0 W B g b h m' x y := by
  obtain ⟨u1, u2, u3⟩ := o.up
  obtain ⟨l1, l2, l3⟩ := o.lo
  refine ⟨hl, o.ra.only ho (by rintro (e | e); exact o.ap.1 e; exact o.ap.2 e) (by rintro k _ hk (e | e) <;> omega), o.ok, o.lo, ⟨u1, u2, Nat.le_trans u3 ho.size⟩, o.ap, o.bel.trans (ho.below o.bel.size (by rintro k (e | e) <;> omega))⟩
theorem Half.both {w0 wr W : World} {B g b h m : Nat} {x y : LD} (o : Half w0 wr B g b h m x y) (hy : y.ok) (hr : RefAt W (fun k => B ≤ k ∨ wr.heap.size ≤ k) h y) (ho : Only (fun k => k = h) wr W) : Both w0 W B g b h m y := by
  obtain ⟨u1, u2, u3⟩ := o.up
  obtain ⟨l1, l2, l3⟩ := o.lo
  have hh := o.ra.off
  refine ⟨o.la.only ho ?_ ?_, hr.mono (fun k _ hk => ?_) hh, hy, o.lo, ⟨u1, u2, Nat.le_trans u3 ho.size⟩, o.ap, o.bel.trans (ho.below o.bel.size (by intro k e; omega))⟩
  · exact fun e => o.ap.1 e.symm
  · exact fun e => o.ap.2 e.symm
  · rcases hk with hk | hk <;> omega
set_option maxRecDepth 20000 in
set_option maxHeartbeats 8000000 in
theorem does_walk {w : World} {A : Option Addr} {c : Nat} {l : List LOp} (hl : OpsIn w A l) (n limit : Int) :
    Calls Try.prog 3 #[.slice A l.length c, .int .i64 n, .int .i64 limit] w fun e w' => e = .returned (.bool true) ∧ Below w.heap.size w w' := by
  have hp1 := ptr_some
  have HL := Lib.hid hl
  have hlen := hl.len
  clear hl
  go_enter Try.func3, Try.ntmps3
  go_wp2_with fail
  refine (new_any _).mono ?_
  rintro e w1 ⟨g, b, rfl, hL, hb, hg, hbb⟩
  have HB1 := Lib.hid hb
  have HL1 := Lib.hid hL
  clear hb hL
  go_wp2_with fail
  refine (lives_any _).mono ?_
  rintro e w2 ⟨rfl, hb⟩
  have hgl := HL1.out.blk.lt
  have hbl : b < w1.heap.size := by obtain ⟨D, h1, _⟩ := HL1.out.map; exact h1.lt
  have hba : Below w1.heap.size w1 (w1.alloc (.cells #[.slice none 0 0, .bool false] 28)) := below_a1 _ _
  have HO2 := Lib.hid (show Both w w2 (w1.heap.size + 1) g b w1.heap.size 0 ⟨[], false⟩ from by
    have hB := Blk.new w1 28 #[.slice none 0 0, .bool false]
    refine ⟨(HL1.out.below hba).below hb, ⟨⟨none, 0, hB.below hb (by simp), Reads.nil⟩, by omega⟩, LD.ok_nil, ⟨hg, hbb, HB1.out.size⟩, ⟨by omega, by omega, ?_⟩, ⟨by omega, by omega⟩, (HB1.out.alloc HB1.out.size _).trans (hb.mono ?_)⟩
    · have := hb.size
      simpa using this
    · have := HB1.out.size
      simp
      omega)
  clear hb hba HB1 HL1 hg hbb
  generalize w1.heap.size = h at *
  generalize h + 1 = B at *
  go_wp2_with fail
  go_loopw [9, 10] (fun iv pv wr => ∃ (k m : Nat) (x : LD), k ≤ l.length ∧ k ≤ 80 ∧ iv = .int .i64 k ∧ m ≤ k ∧ x.s.length ≤ k ∧ Both w wr B g b h m x) (fun iv _ _ => l.length - (intOf iv).toNat)
  case atStart => exact ⟨0, 0, _, Nat.zero_le _, Nat.zero_le _, rfl, Nat.zero_le _, Nat.zero_le _, HO2.out⟩
  case round =>
    obtain ⟨k, m, x, hk, hk80, rfl, hmk, hxk, o⟩ := hrel
    have HO := Lib.hid o
    clear o HO2
    by_cases hkl : k < l.length ∧ k < 80
    · obtain ⟨hkl, hk8⟩ := hkl
      obtain ⟨bk, off, rfl, hrg⟩ := op_at HL.out HO.out.bel hkl
      have HWF := Lib.hid (HL.out.wf _ (List.getElem_mem hkl))
      generalize l[k] = r at *
      obtain ⟨rk, ri, rn⟩ := r
      simp only at *
      have HRG := Lib.hid hrg
      clear hrg
      go_upto_block 2 with (first | (refine wpList_load_mid rfl 31 (.tmp 32) rfl bk (off + k * 3) rfl _ _ HRG.out Try.underlying31 rfl (by kernel_rfl) ?_) | (refine wpList_store_new (by rfl) 31 (.tmp 10) (.tmp 33) rfl wr _ #[.int .i64 rk, .int .i64 ri, .int .i64 rn] (by rfl) (by rfl) (by rfl) (by kernel_rfl) (by rfl) rfl ?_))
      have HB3 := Lib.hid (Blk.new wr 31 #[.int .i64 rk, .int .i64 ri, .int .i64 rn])
      have HO3 := Lib.hid (HO.out.below (below_a1 wr (.cells #[.int .i64 rk, .int .i64 ri, .int .i64 rn] 31)))
      have hgw : g < wr.heap.size ∧ b < wr.heap.size ∧ h < wr.heap.size := ⟨Nat.lt_of_lt_of_le HO.out.up.1 HO.out.up.2.2, Nat.lt_of_lt_of_le HO.out.up.2.1 HO.out.up.2.2, Nat.lt_of_lt_of_le HO.out.hi HO.out.up.2.2⟩
      go_cut [10] (fun v10 wx => ∃ m' : Nat, m' ≤ k + 1 ∧ Both w wx B g b h m' (x.does ⟨rk, ri, rn⟩) ∧ Blk wx wr.heap.size 31 #[.int .i64 rk, .int .i64 ri, .int .i64 rn] ∧ v10 = .pointer (some ⟨wr.heap.size, 0, none⟩))
      case first =>
        by_cases h1 : rk = 1
        · subst h1
          go_wp2_with fail
          refine (ladd_any HO3.out.la HO3.out.ok ri rn HWF.out (by omega)).mono ?_
          rintro e w4 ⟨rfl, hl4, ho4⟩
          have HH := Lib.hid (HO3.out.half hl4 ho4)
          have HB4 := Lib.hid (HB3.out.only ho4 (by rintro (h | h) <;> omega)); have hd1 := HB4.out.cell 1; have hd2 := HB4.out.cell 2; simp at hd1 hd2
          clear hl4 ho4
          go_wp2_with fail
          refine (radd2_any HH.out.ra HH.out.ok (by omega) ri rn).mono ?_
          rintro e w5 ⟨rfl, hr5, ho5⟩
          have HB5 := Lib.hid (HB4.out.only ho5 (by rintro h; omega))
          have HO5 := Lib.hid (HH.out.both (LD.ok_add HH.out.ok _ _) hr5 ho5)
          clear hr5 ho5
          go_wp2_with fail
          go_meet
          exact ⟨m + 1, by omega, HO5.out, HB5.out, rfl⟩
        · by_cases h2 : rk = 2
          · subst h2
            go_wp2_with fail
            refine (lsub_any HO3.out.la HO3.out.ok ri rn HWF.out (by omega)).mono ?_
            rintro e w4 ⟨rfl, hl4, ho4⟩
            have HH := Lib.hid (HO3.out.half hl4 ho4)
            have HB4 := Lib.hid (HB3.out.only ho4 (by rintro (h | h) <;> omega)); have hd1 := HB4.out.cell 1; have hd2 := HB4.out.cell 2; simp at hd1 hd2
            clear hl4 ho4
            go_wp2_with fail
            refine (rsub2_any HH.out.ra HH.out.ok (by omega) ri rn).mono ?_
            rintro e w5 ⟨rfl, hr5, ho5⟩
            have HB5 := Lib.hid (HB4.out.only ho5 (by rintro h; omega))
            have HO5 := Lib.hid (HH.out.both (LD.ok_sub HH.out.ok _ _) hr5 ho5)
            clear hr5 ho5
            go_wp2_with fail
            go_meet
            exact ⟨m + 1, by omega, HO5.out, HB5.out, rfl⟩
          · go_wp2_with fail
            go_meet
            refine ⟨m, by omega, ?_, HB3.out, rfl⟩
            unfold LD.does
            rw [if_neg h1, if_neg h2]
            exact HO3.out
      case rest =>
        obtain ⟨m', hm', o', hB', rfl⟩ := hcut
        have hly := LD.len_does HO.out.ok ⟨rk, ri, rn⟩
        generalize x.does ⟨rk, ri, rn⟩ = y at *
        have HO4 := Lib.hid o'
        have hd1 := hB'.cell 1
        simp at hd1
        obtain ⟨A0, c0, hB0, hrd0⟩ := o'.ra.mem
        have HRD := Lib.hid hrd0
        have hh0 := hB0.cell 0
        have hh1 := hB0.cell 1
        simp at hh0 hh1
        have hoy := Lib.hid o'.ok
        have hlt := hB'.lt
        have HBK := Lib.hid hB'
        have HBH := Lib.hid hB0
        have hlh := hB0.lt
        clear o' hB' hrd0 hB0 HO HO3 HB3
        have hk1 : (wc.cell? ⟨wr.heap.size, 1, none⟩ = some (.int .i64 ri)) ∧ (wc.cell? ⟨h, 0, none⟩ = some (.slice A0 y.s.length c0)) ∧ (wc.cell? ⟨h, 1, none⟩ = some (.bool y.o)) := ⟨hd1, hh0, hh1⟩
        go_wp2_with fail
        go_region_held3 (fun W => (W.cell? ⟨wr.heap.size, 1, none⟩ = some (.int .i64 ri)) ∧ (W.cell? ⟨h, 0, none⟩ = some (.slice A0 y.s.length c0)) ∧ (W.cell? ⟨h, 1, none⟩ = some (.bool y.o))) (first | exact hk4 | exact hk3 | exact hk1 | go_keep) ((first
          | (go_at_call 15; refine (all_any (HO4.out.below (by repeat (first | exact Below.refl _ _ | refine Below.drew ?_ | refine Below.alloc ?_ (by simp) _))).la hoy.out (by omega)).mono ?_; rintro e w3 ⟨v3, rfl, hown, hb3⟩; obtain ⟨A3, c3, rfl, hrd3⟩ := own_readsN hown; have hbw3 : Below wc.heap.size wc w3 := Below.trans (by repeat (first | exact Below.refl _ _ | refine Below.drew ?_ | refine Below.alloc ?_ (by simp) _)) (hb3.mono (by simp)); have HR3 := Lib.hid hrd3; have hk3 : (w3.cell? ⟨wr.heap.size, 1, none⟩ = some (.int .i64 ri)) ∧ (w3.cell? ⟨h, 0, none⟩ = some (.slice A0 y.s.length c0)) ∧ (w3.cell? ⟨h, 1, none⟩ = some (.bool y.o)) := ⟨(hbw3.cell (p := ⟨wr.heap.size, 1, none⟩) hlt).trans hd1, (hbw3.cell (p := ⟨h, 0, none⟩) hlh).trans hh0, (hbw3.cell (p := ⟨h, 1, none⟩) hlh).trans hh1⟩)
          | (go_at_call 14; refine (same_any (HR3.out.below (B := w3.heap.size) (by repeat (first | exact Below.refl _ _ | refine Below.drew ?_ | refine Below.alloc ?_ (by simp) _)) (fun _ h _ => h)) (HRD.out.below (B := wc.heap.size) (by repeat (first | exact hbw3 | refine Below.drew ?_ | refine Below.alloc ?_ (by simp) _)) (fun _ h _ => h)) (by omega)).mono ?_; rintro e w4 ⟨rfl, hb4⟩; have hbw4 : Below wc.heap.size wc w4 := Below.trans (by repeat (first | exact hbw3 | refine Below.drew ?_ | refine Below.alloc ?_ (by simp) _)) (hb4.mono (by have := hbw3.size; simp; omega)); have hk4 : (w4.cell? ⟨wr.heap.size, 1, none⟩ = some (.int .i64 ri)) ∧ (w4.cell? ⟨h, 0, none⟩ = some (.slice A0 y.s.length c0)) ∧ (w4.cell? ⟨h, 1, none⟩ = some (.bool y.o)) := ⟨(hbw4.cell (p := ⟨wr.heap.size, 1, none⟩) hlt).trans hd1, (hbw4.cell (p := ⟨h, 0, none⟩) hlh).trans hh0, (hbw4.cell (p := ⟨h, 1, none⟩) hlh).trans hh1⟩)
          | (go_at_call 16; refine (over_any (HO4.out.below (by repeat (first | exact hbw4 | refine Below.drew ?_ | refine Below.alloc ?_ (by simp) _))).la).mono ?_; rintro e w5 ⟨rfl, rfl⟩)
          | (go_at_call 17; refine (of_any (HO4.out.below (by repeat (first | exact hbw4 | refine Below.drew ?_ | refine Below.alloc ?_ (by simp) _))).la ri HWF.out).mono ?_; rintro e w5 ⟨rfl, rfl⟩)
          | (go_at_call 18; refine (rof_any (HO4.out.below (by repeat (first | exact hbw4 | refine Below.drew ?_ | refine Below.alloc ?_ (by simp) _))).ra hoy.out (by omega) ri).mono ?_; rintro e w5 ⟨rfl, rfl⟩)
          | (go_at_call 19; refine (fits_any (HO4.out.below (by repeat (first | exact hbw4 | refine Below.drew ?_ | refine Below.alloc ?_ (by simp) _))).la ri n limit HWF.out).mono ?_; rintro e w5 ⟨rfl, rfl⟩)
          | (go_at_call 20; refine (rfits_any (HO4.out.below (by repeat (first | exact hbw4 | refine Below.drew ?_ | refine Below.alloc ?_ (by simp) _))).ra hoy.out (by omega) ri n limit).mono ?_; rintro e w5 ⟨rfl, rfl⟩)))
        have HR5 := Lib.hid (HO4.out.below (by repeat (first | exact hbw4 | refine Below.drew ?_ | refine Below.alloc ?_ (by simp) _)))
        clear hbw4 hbw3
        go_wp2_with fail
        go_roundw
        case rel => exact ⟨k + 1, m', y, by omega, by omega, by go_num, by omega, by omega, HR5.out⟩
        case measure => simp [intOf]; omega
    · by_cases h8 : k < l.length
      · have h80 : k = 80 := by omega
        subst h80
        go_wp2_with fail
        go_ret
        exact ⟨rfl, HO.out.bel⟩
      · obtain rfl : k = l.length := by omega
        go_wp2_with fail
        go_ret
        exact ⟨rfl, HO.out.bel⟩
end Go.Proofs.Ytneablcgcdmgpaa
