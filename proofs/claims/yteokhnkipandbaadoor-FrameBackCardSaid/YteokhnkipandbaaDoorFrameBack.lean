/-
  Messages that are put, and fed in whatever pieces, are told again: the walk of 'FrameBack'. No condition but that the messages read as data and the table of least lengths as it is laid.
-/
import Derived.Test.YteokhnkipandbaaDoorFrameBackA
namespace Go.Proofs.YteokhnkipandbaaDoor
open Go.ChangeShapes Go.WideShapes Go.ChangeAt Go.RowKit

def rowM (l : List MV) : List Value := l.flatMap fun m => m.cells.toList
theorem rowM_at {l : List MV} {k : Nat} (h : k < l.length) : (rowM l)[k * 2]? = some (.int .i64 (l[k]).ty) ∧ (rowM l)[k * 2 + 1]? = some (.slice (l[k]).A (l[k]).d.length (l[k]).c) := by
  induction l generalizing k with
  | nil => simp at h
  | cons m ms ih =>
    have e : rowM (m :: ms) = .int .i64 m.ty :: .slice m.A m.d.length m.c :: rowM ms := by simp [rowM, MV.cells]
    rw [e]
    cases k with
    | zero => exact ⟨rfl, rfl⟩
    | succ k =>
      have := ih (k := k) (by simpa using h)
      rw [show (k + 1) * 2 = k * 2 + 2 by omega]
      exact this
theorem rowM_cells {w : World} {F : Nat → Prop} {A : Option Addr} {l : List MV} (hr : Reads w F A (rowM l)) {k : Nat} (h : k < l.length) :
    ∃ b off, A = some ⟨b, off, none⟩ ∧ w.cell? ⟨b, off + k * 2, none⟩ = some (.int .i64 (l[k]).ty) ∧ w.cell? ⟨b, off + k * 2 + 1, none⟩ = some (.slice (l[k]).A (l[k]).d.length (l[k]).c) := by
  obtain ⟨h0, h1⟩ := rowM_at h
  rcases hr with hn | ⟨b, off, e, _, _, hc⟩
  · rw [hn] at h0; cases h0
  · exact ⟨b, off, e, hc _ _ h0, by rw [Nat.add_assoc]; exact hc _ _ h1⟩

def lenV : Value → Nat
  | .slice _ n _ => n
  | _ => 0
/-- no message is whole in the stream -/
structure Inc (l : List MV) (k : Nat) (bs : List UInt8) : Prop where
  inc : (k = l.length ∧ bs = []) ∨ ∃ hk : k < l.length, bs.length < (l[k]).put.length
/-- what has been told, what waits, what is left -/
structure Back (w wr : World) (gs : Nat) (l : List MV) (k : Nat) (bs rest : List UInt8) (A5 : Option Addr) (vs : Value) : Prop where
  hk : k ≤ l.length
  eq : bs ++ rest = puts (l.drop k)
  rd : Reads wr (· < gs) A5 (rest.map vb)
  s : Strm gs wr gs vs bs 0 0 (.slice none 0 0)
  bel : Below w.heap.size w wr
theorem Back.step {w wr W : World} {gs : Nat} {l : List MV} {k : Nat} {bs rest : List UInt8} {A5 : Option Addr} {vs : Value} (h : Back w wr gs l k bs rest A5 vs) (hg : w.heap.size ≤ gs) {bs' : List UInt8} {vs' : Value} {k' : Nat} (ho : Only (Turns gs vs) wr W) (hk : k' ≤ l.length) (he : bs' ++ rest = puts (l.drop k')) (hs : Strm gs W gs vs' bs' 0 0 (.slice none 0 0)) : Back w W gs l k' bs' rest A5 vs' :=
  ⟨hk, he, h.rd.only ho (fun b _ hb ht => by have := turns_ge h.s b ht; omega), hs, h.bel.trans (ho.below h.bel.size (fun i hi => by have := turns_ge h.s i hi; omega))⟩
theorem Back.below {w wr W : World} {gs : Nat} {l : List MV} {k : Nat} {bs rest : List UInt8} {A5 : Option Addr} {vs : Value} (h : Back w wr gs l k bs rest A5 vs) (hb : Below wr.heap.size wr W) : Back w W gs l k bs rest A5 vs :=
  ⟨h.hk, h.eq, h.rd.only (Only.of_below (S := fun _ => False) hb) (fun _ _ _ h => h), h.s.below hb, h.bel.trans (hb.mono h.bel.size)⟩

set_option maxRecDepth 100000 in
set_option maxHeartbeats 8000000 in
theorem frame_back_walk (A : Option Addr) (c : Nat) (l : List MV) (piece : Int) (w : World) (hl : l.length ≤ 9223372036854775807) (hr : Reads w (fun _ => True) A (rowM l)) (hm : ∀ m ∈ l, m.d.length ≤ 9223372036854775807 ∧ Reads w (fun _ => True) m.A (m.d.map vb)) (hL : LeastAt w) :
    Calls Tryd.prog 8 #[.slice A l.length c, .int .i64 piece] w fun e w' => e = .returned (.bool true) ∧ Below w.heap.size w w' := by
  by_cases h12 : (12 : Int) < l.length
  case pos =>
    clear hr hm
    go_enter Tryd.func8, Tryd.ntmps8
    go_wp2_with fail
    refine (frame_lives _ hL).mono ?_
    rintro e w1 ⟨rfl, hb⟩
    go_wp2_with fail
    go_ret
    exact ⟨rfl, hb⟩
  by_cases hp : piece < 1
  case pos =>
    clear hr hm
    go_enter Tryd.func8, Tryd.ntmps8
    go_wp2_with fail
    refine (frame_lives _ hL).mono ?_
    rintro e w1 ⟨rfl, hb⟩
    go_wp2_with fail
    go_ret
    exact ⟨rfl, hb⟩
  obtain ⟨i0, hi, hz0, hz1, hz2⟩ := info_parts infoU8
  have hr0 := hr.mono (G := (· < w.heap.size)) (fun _ hk _ => hk)
  have HM := Lib.hid fun m (hmm : m ∈ l) => (hm m hmm).2.mono (G := (· < w.heap.size)) (fun _ hk _ => hk)
  have HML := Lib.hid fun m (hmm : m ∈ l) => (hm m hmm).1
  have hl12 : l.length ≤ 12 := by omega
  clear hr hm
  go_enter Tryd.func8, Tryd.ntmps8
  go_wp2_with fail
  go_loopw [5, 6] (fun v i wr => ∃ k : Nat, k ≤ l.length ∧ i = .int .i64 k ∧ (∀ m ∈ l.take k, m.ok = true) ∧ wr.ownsRow w.heap.size 5 1 v (puts (l.take k)).length ((puts (l.take k)).map vb) ∧ Below w.heap.size w wr) (fun _ i _ => l.length - (intOf i).toNat)
  case atStart => exact ⟨0, by omega, rfl, by simp, by simpa [puts] using own_nil _ _ _ _, Below.refl _ _⟩
  case round =>
    obtain ⟨k, hk, rfl, hok, ho, hb⟩ := hrel
    by_cases hkl : k < l.length
    case pos =>
      have hr1 := hr0.below hb (fun _ _ h => h)
      obtain ⟨b, off, hA, q0, q1⟩ := rowM_cells hr1 hkl
      subst hA
      have k1 : (k : Int) < (l.length : Int) := by omega
      have k2 : (0 : Int) ≤ (k : Int) := by omega
      have hmem := List.getElem_mem hkl
      have HR := Lib.hid fun W => frefcheck_any l[k] W (HML.out _ hmem)
      have hrm := (HM.out _ hmem).below hb (fun _ _ h => h)
      cases hq : (l[k]).ok
      case false =>
        rw [hq] at HR
        have HL := Lib.hid fun (_ : Unit) => hL.below hb
        clear hrm hr1 ho hok hq hmem
        generalize l[k] = m at *
        obtain ⟨ty, A1, c1, d⟩ := m
        simp only [MV.val, MV.cells] at *
        go_wp2_with fail
        refine (HR.out _).mono ?_
        rintro e W1 ⟨rfl, b1⟩
        go_wp2_with fail
        refine (frame_lives _ ((HL.out ()).below b1)).mono ?_
        rintro e W2 ⟨rfl, b2⟩
        go_wp2_with fail
        go_ret
        exact ⟨rfl, (hb.trans (b1.mono hb.size)).trans (b2.mono (hb.trans (b1.mono hb.size)).size)⟩
      case true =>
        rw [hq] at HR
        have hokn : ∀ m ∈ l.take (k + 1), m.ok = true := fun m hmm => by
          rw [List.take_succ_eq_append_getElem hkl, List.mem_append] at hmm
          rcases hmm with h | h
          · exact hok m h
          · simp at h
            rw [h]
            exact hq
        have hlp := puts_len (l.take k) hok
        have hlk : (l.take k).length = k := by simp; omega
        have hlm : (l[k]).put.length ≤ 4096 := by
          rw [put_len]
          simp [MV.ok, fknownB, fitsF] at hq
          omega
        have HP := Lib.hid fun (W : World) (h : Below wr.heap.size wr W) => fput_ok l[k] W _ ((hL.below hb).below h) hq (((HM.out _ hmem).below hb (fun _ _ h => h)).below h (fun _ hk hh => Nat.lt_of_lt_of_le hh hb.size))
        have HPT := Lib.hid fun (_ : Unit) => puts_take hkl
        have HOK := Lib.hid fun (_ : Unit) => hokn
        rw [hlk] at hlp
        clear hok hokn hr1 hq hrm hlk hmem
        generalize puts (l.take k) = ps at *
        generalize (l[k]).put = pm at *
        generalize l[k] = m at *
        obtain ⟨ty, A1, c1, d⟩ := m
        simp only [MV.val, MV.cells] at *
        have hblt : b < wr.heap.size := block_lt_of_cell q0
        go_wp2_with fail
        refine (HR.out _).mono ?_
        rintro e W1 ⟨rfl, b1⟩
        have q0' := (b1.cell (p := ⟨b, off + k * 2, none⟩) hblt).trans q0
        have q1' := (b1.cell (p := ⟨b, off + k * 2 + 1, none⟩) hblt).trans q1
        have o1 := own_alive ho b1
        clear q0 q1 ho
        go_wp2_with fail
        refine (HP.out _ b1).mono ?_
        rintro e W2 ⟨v7, rfl, o7, b7⟩
        obtain ⟨A7, c7, hv7, _, _, _, rd7⟩ := own_reads o7
        subst hv7
        have o2 := own_alive o1 b7
        have B1 := hb.trans (b1.mono hb.size)
        have B2 := B1.trans (b7.mono B1.size)
        clear q0' q1' o1 o7 b1 b7 B1
        go_wp2_with (refine wpList_append_rd _ rfl (.tmp 46) (.tmp 47) 59 rfl w.heap.size 5 i0 (.int .u8 0) 1 1 Tryd.underlying59 hi hz0 hz1 hz2 rfl (by omega) _ ps.length (ps.map vb) (by rfl) o2 _ A7 pm.length c7 (pm.map vb) (by rfl) (by simp) rd7 (vb_one _) (by unfold maxLen; omega) (by omega) B2.size ?_)
        intro v3 W3 o3 g3 _
        have B3 := below_append B2 B2.size o2 g3
        clear rd7 o2 g3 B2
        go_wp2_with fail
        refine ⟨⟨k + 1, by omega, by simp, HOK.out (), ?_, B3⟩, by simp [intOf]; omega⟩
        rw [HPT.out (), List.length_append, List.map_append]
        exact o3
    case neg =>
      obtain rfl : k = l.length := by omega
      rw [List.take_length] at hok ho
      have hlp := puts_len l hok
      have k1 : ¬ (l.length : Int) < (l.length : Int) := by omega
      have HOK := Lib.hid fun (m : MV) (hmm : m ∈ l) => hok m hmm
      obtain ⟨A5, c5, hv5, hc5, _, _, rd5⟩ := own_reads ho
      subst hv5
      have rd5 : Reads wr (· < wr.heap.size) A5 ((puts l).map vb) := rd5.mono (fun _ hk _ => hk)
      have htot : (puts l).length ≤ 49152 := by omega
      have L1 := hL.below hb
      clear hok ho hlp
      go_wp2_with fail
      refine (new_strm _).mono ?_
      rintro e W1 ⟨rfl, s1, b1⟩
      have B1 := hb.trans (b1.mono hb.size)
      have rd1 := rd5.below b1 (fun _ _ h => h)
      have L2 := L1.below b1
      have hgs : w.heap.size ≤ wr.heap.size := hb.size
      clear b1 hb rd5 L1
      generalize wr.heap.size = gs at *
      go_wp2_with fail
      refine (frame_lives _ L2).mono ?_
      rintro e W2 ⟨rfl, b2⟩
      have K2 : Back w W2 gs l 0 [] (puts l) A5 (.slice none 0 0) := (⟨Nat.zero_le _, by simp, rd1, s1, B1⟩ : Back w W1 gs l 0 [] (puts l) A5 (.slice none 0 0)).below b2
      have hinc : Inc l 0 [] := ⟨by
        by_cases h0 : 0 < l.length
        · exact .inr ⟨h0, by rw [put_len]; simp; omega⟩
        · exact .inl ⟨by omega, rfl⟩⟩
      clear b2 B1 rd1 s1 L2
      go_wp2_with fail
      go_loopw [5, 10] (fun v kk wx => ∃ (k : Nat) (bs rest : List UInt8) (A5 : Option Addr) (c5 : Nat) (vs : Value), v = .slice A5 rest.length c5 ∧ rest.length ≤ c5 ∧ kk = .int .i64 k ∧ Back w wx gs l k bs rest A5 vs ∧ Inc l k bs ∧ bs.length + rest.length ≤ 49152) (fun v _ _ => lenV v)
      case atStart => exact ⟨0, [], puts l, A5, c5, _, rfl, hc5, rfl, K2, hinc, by simpa using htot⟩
      case round =>
        clear K2 hinc htot hc5
        obtain ⟨k, bs, rest, A6, c6, vs, rfl, hc6, rfl, K, hI, htot⟩ := hrel
        by_cases hr0' : rest = []
        case pos =>
          subst hr0'
          have hfin : k = l.length ∧ bs = [] := by
            rcases hI.inc with h | ⟨hk', h⟩
            · exact h
            · exfalso
              have := K.eq
              rw [puts_drop hk', List.append_nil] at this
              have := congrArg List.length this
              rw [List.length_append] at this
              omega
          obtain ⟨rfl, rfl⟩ := hfin
          have HKB := Lib.hid fun (_ : Unit) => K.bel
          have HS := Lib.hid fun (_ : Unit) => len_strm K.s
          clear K hI
          have hll : ((l.length : Int) == (l.length : Int)) = true := by simp
          go_wp2_with fail
          refine (HS.out ()).mono ?_
          rintro e W3 ⟨rfl, rfl⟩
          go_wp2_with fail
          go_ret
          exact ⟨rfl, HKB.out ()⟩
        case neg =>
          have hrp : 0 < rest.length := List.length_pos_iff.2 hr0'
          have k3 : (0 : Int) < (rest.length : Int) := by omega
          obtain ⟨N, hN1, hNr, hNp⟩ : ∃ N : Nat, 1 ≤ N ∧ N ≤ rest.length ∧ (((rest.length : Int) < piece ∧ N = rest.length) ∨ (¬ (rest.length : Int) < piece ∧ piece = (N : Int))) := by
            by_cases h : (rest.length : Int) < piece
            · exact ⟨rest.length, by omega, Nat.le_refl _, .inl ⟨h, rfl⟩⟩
            · exact ⟨piece.toNat, by omega, by omega, .inr ⟨h, by omega⟩⟩
          have hbl := K.s.blk.lt
          have K3 := K
          have hrdN : Reads wr (· < gs) (cutA A6 c6 0) ((rest.take N).map vb) := by
            have h1 := (K.rd.take N).cut (c := c6) (by simp; omega) 0
            rw [List.drop_zero, ← List.map_take] at h1
            exact h1
          have hlN : (rest.take N).length = N := by simp; omega
          have F4 := feed_ok (cutA A6 c6 0) c6 (rest.take N) _ K.s (by rw [hlN]; omega) hrdN
          rw [hlN] at F4
          have HF4 := Lib.hid fun (_ : Unit) => F4
          have hNc : N ≤ c6 := by omega
          clear F4 hrdN hlN
          rcases hNp with ⟨hp1, hp2⟩ | ⟨hp1, hp2⟩
          case inl =>
            subst hp2
            go_wp2_with (refine wpList_cut_to (by rfl) 59 5 (.tmp 67) (.tmp 68) (by rfl) Tryd.underlying59 (by kernel_rfl) A6 rest.length c6 rest.length (rest.length : Int) (by rfl) (by rfl) rfl hNc ?_)
            refine (HF4.out ()).mono ?_
            rintro e W4 ⟨v4, rfl, hf4⟩
            have hrd4 : Reads W4 (· < gs) (cutA A6 c6 rest.length) ((rest.drop rest.length).map vb) := by
              have h1 := (K3.rd.cut (c := c6) (by simp; omega) rest.length).only hf4.only (fun b _ hb ht => by have := turns_ge K3.s b ht; omega)
              rw [← List.map_drop] at h1
              exact h1
            have K4 : Back w W4 gs l k (bs ++ rest.take rest.length) (rest.drop rest.length) (cutA A6 c6 rest.length) v4 := ⟨K3.hk, by rw [List.append_assoc, List.take_append_drop]; exact K3.eq, hrd4, hf4.s, K3.bel.trans (hf4.only.below K3.bel.size (fun i hi => by have := turns_ge K3.s i hi; omega))⟩
            have ht4 : (bs ++ rest.take rest.length).length + (rest.drop rest.length).length ≤ 49152 := by simp; omega
            have hmeas : rest.length - rest.length < rest.length := by omega
            have hlenD : (rest.drop rest.length).length = rest.length - rest.length := by simp
            have hcD : (rest.drop rest.length).length ≤ c6 - rest.length := by rw [hlenD]; omega
            obtain ⟨rs, hrs⟩ : ∃ rs, rs = rest.drop rest.length := ⟨_, rfl⟩
            obtain ⟨A7, hA7⟩ : ∃ A7, A7 = cutA A6 c6 rest.length := ⟨_, rfl⟩
            rw [← hrs] at K4 ht4 hlenD hcD
            rw [← hA7] at K4
            have HRS := Lib.hid fun (_ : Unit) => hlenD
            have HMS := Lib.hid fun (_ : Unit) => hmeas
            have HA7 := Lib.hid fun (_ : Unit) => hA7
            have hq0 := hr0
            clear hf4 hrd4 K K3 hI HF4 hrs hlenD hmeas htot hA7
            go_wp2_with (refine wpList_cut_from (by rfl) 59 5 (.tmp 72) (.tmp 73) (by rfl) Tryd.underlying59 (by kernel_rfl) A6 rest.length c6 rest.length rest.length (by rfl) (by rfl) rfl (Nat.le_refl _) ?_)
            rw [← HA7.out ()]
            go_loopw [10] (fun kk wy => ∃ (k' : Nat) (bs' : List UInt8) (vs' : Value), kk = .int .i64 k' ∧ Back w wy gs l k' bs' rs A7 vs' ∧ bs'.length + rs.length ≤ 49152) (fun kk _ => l.length - (intOf kk).toNat)
            case atStart => exact ⟨k, _, v4, rfl, K4, ht4⟩
            case round =>
              clear K4 ht4
              obtain ⟨k', bs', vs', rfl, K', ht'⟩ := hrel
              rcases next_case l bs' rs k' K'.hk HOK.out K'.eq with ⟨n1, n2, n3⟩ | ⟨hk', hh, hN', hd, heq⟩
              · have HN := Lib.hid fun (_ : Unit) => next_part K'.s (hL.below K'.bel) (by omega) n1 n2
                clear n1 n2
                go_wp2_with fail
                refine (HN.out ()).mono ?_
                rintro e W5 ⟨rfl, b5⟩
                have K5 := (K'.below b5).below (below_a2 W5 (.cells msgNone 61) (.cells noteNone 68))
                unfold nobody msgNone noteNone at *
                clear K' b5 HN
                go_wp2_with fail
                exact ⟨⟨k', bs', rs, A7, c6 - rest.length, vs', by rw [HRS.out ()]; first | done | rfl | simp, hcD, rfl, K5, ⟨n3⟩, ht'⟩, by first | exact HMS.out () | (simp [lenV]; omega)⟩
              · have hNl := put_len l[k']
                have hmem := List.getElem_mem hk'
                have NM0 := next_msg (l[k']).put.length K'.s (hL.below K'.bel) (by omega) (by rw [hh]) (by
                  rw [hh]
                  have := HOK.out _ hmem
                  simp [MV.ok, fknownB] at this ⊢
                  omega) (by rw [hh, hNl]; simp) (by omega) hN'
                rw [hh] at NM0
                have HNM := Lib.hid fun (_ : Unit) => NM0
                obtain ⟨b, off, hA, q0, q1⟩ := rowM_cells (hq0.below K'.bel (fun _ _ h => h)) hk'
                have hrl := Lib.hid fun (W : World) (hb : Below w.heap.size w W) => (HM.out _ hmem).below hb (fun _ _ h => h)
                have HKS := Lib.hid fun (W : World) (v2 : Value) (ho : Only (fun k => k = gs) wr W) (hs : Strm gs W gs v2 (bs'.drop (l[k']).put.length) 0 0 (.slice none 0 0)) => K'.step hgs (ho.mono (fun i _ h => Or.inl h)) (k' := k' + 1) (by omega) heq hs
                have ht5 : (bs'.drop (l[k']).put.length).length + rs.length ≤ 49152 := by simp; omega
                have hN19 : (l[k']).put.length - 19 = (l[k']).d.length := by omega
                have HOM := Lib.hid fun (W : World) (vm : Value) (h : W.ownsRow wr.heap.size 5 1 vm ((l[k']).put.length - 19) (((bs'.take (l[k']).put.length).drop 19).map vb)) => (show W.ownsRow wr.heap.size 5 1 vm (l[k']).d.length ((l[k']).d.map vb) from by rw [hd, hN19] at h; exact h)
                have hrow := Lib.hid fun (W : World) (hb : Below w.heap.size w W) => rowM_cells (hq0.below hb (fun _ _ h => h)) hk'
                have j1 : (k' : Int) < (l.length : Int) := by omega
                have j2 : (0 : Int) ≤ (k' : Int) := by omega
                have j3 : ¬ (l.length : Int) ≤ (k' : Int) := by omega
                have j4 : decide ((l.length : Int) ≤ (k' : Int)) = false := decide_eq_false j3
                have j5 : ¬ l.length ≤ k' := by omega
                have j6 : decide (l.length ≤ k') = false := decide_eq_false j5
                clear NM0 hN' heq hNl hh hA q0 q1 hd hN19 K' hmem
                go_wp2_with fail
                refine (HNM.out ()).mono ?_
                rintro e W5 ⟨vm, v2, rfl, hnx⟩
                have K5 := HKS.out W5 v2 hnx.only hnx.s
                have om := HOM.out W5 vm hnx.m
                obtain ⟨Am, cm, hvm, -⟩ := own_reads om
                subst hvm
                have al := below_a2 W5 (.cells #[.int .i64 (l[k']).ty, .slice Am (l[k']).d.length cm] 61) (.cells noteNone 68)
                have K6 := K5.below al
                have m6 := (Blk.new W5 61 #[.int .i64 (l[k']).ty, .slice Am (l[k']).d.length cm]).alloc (.cells noteNone 68)
                have om6 := own_alive om al
                have nn6 := Blk.new1 W5 (.cells #[.int .i64 (l[k']).ty, .slice Am (l[k']).d.length cm] 61) 68 noteNone
                have ht6 := ht5
                obtain ⟨b, off, hA, q0, q1⟩ := hrow.out _ K6.bel
                unfold noteNone at *
                obtain ⟨y0, y1⟩ := blk2c m6
                obtain ⟨z0, -⟩ := blk3 nn6
                clear hnx K5 om al HNM HOM HKS ht' ht5 hrow
                generalize l[k'] = mm at *
                obtain ⟨ty, A8, c8, d8⟩ := mm
                simp only at *
                subst hA
                have HSM := Lib.hid fun (W : World) (h : Below ((W5.alloc (.cells #[.int .i64 ty, .slice Am d8.length cm] 61)).alloc (.cells #[.int .i64 0, .int .i64 0, .slice none 0 0] 68)).heap.size ((W5.alloc (.cells #[.int .i64 ty, .slice Am d8.length cm] 61)).alloc (.cells #[.int .i64 0, .int .i64 0, .slice none 0 0] 68)) W) =>
                  (same_msg ⟨ty, Am, cm, d8⟩ ⟨ty, A8, c8, d8⟩ W _ _ (own_reads1 (own_alive om6 h)) (hrl.out W (K6.bel.trans (h.mono K6.bel.size)))).mono fun e w' (hh : _ ∧ _) => (show e = .returned (.bool true) ∧ Below W.heap.size W w' from ⟨hh.1.trans (by simp [sameM, eqB]), hh.2⟩)
                have HK6 := Lib.hid fun (W : World) (h : Below ((W5.alloc (.cells #[.int .i64 ty, .slice Am d8.length cm] 61)).alloc (.cells #[.int .i64 0, .int .i64 0, .slice none 0 0] 68)).heap.size ((W5.alloc (.cells #[.int .i64 ty, .slice Am d8.length cm] 61)).alloc (.cells #[.int .i64 0, .int .i64 0, .slice none 0 0] 68)) W) => K6.below h
                have HM6 := Lib.hid fun (W : World) (h : Below ((W5.alloc (.cells #[.int .i64 ty, .slice Am d8.length cm] 61)).alloc (.cells #[.int .i64 0, .int .i64 0, .slice none 0 0] 68)).heap.size ((W5.alloc (.cells #[.int .i64 ty, .slice Am d8.length cm] 61)).alloc (.cells #[.int .i64 0, .int .i64 0, .slice none 0 0] 68)) W) =>
                  (show W.cell? ⟨W5.heap.size, 0, none⟩ = some (.int .i64 ty) ∧ W.cell? ⟨W5.heap.size, 1, none⟩ = some (.slice Am d8.length cm) ∧ W.cell? ⟨b, off + k' * 2, none⟩ = some (.int .i64 ty) ∧ W.cell? ⟨b, off + k' * 2 + 1, none⟩ = some (.slice A8 d8.length c8) from by
                    obtain ⟨y0, y1⟩ := blk2c (m6.below h m6.lt)
                    exact ⟨y0, y1, (h.cell (p := ⟨b, off + k' * 2, none⟩) (block_lt_of_cell q0)).trans q0, (h.cell (p := ⟨b, off + k' * 2 + 1, none⟩) (block_lt_of_cell q1)).trans q1⟩)
                have hDD : Below ((W5.alloc (.cells #[.int .i64 ty, .slice Am d8.length cm] 61)).alloc (.cells #[.int .i64 0, .int .i64 0, .slice none 0 0] 68)).heap.size ((W5.alloc (.cells #[.int .i64 ty, .slice Am d8.length cm] 61)).alloc (.cells #[.int .i64 0, .int .i64 0, .slice none 0 0] 68)) ((W5.alloc (.cells #[.int .i64 ty, .slice Am d8.length cm] 61)).alloc (.cells #[.int .i64 0, .int .i64 0, .slice none 0 0] 68)).drew := ⟨rfl, rfl, rfl, Nat.le_refl _, fun _ _ => rfl⟩
                have HDD := Lib.hid fun (_ : Unit) => hDD
                clear hDD K6 m6 om6 nn6 hrl
                go_wp2_with fail
                have hDD := HDD.out ()
                go_region_held3 (fun W => W.cell? ⟨W5.heap.size, 0, none⟩ = some (.int .i64 ty) ∧ W.cell? ⟨W5.heap.size, 1, none⟩ = some (.slice Am d8.length cm) ∧ W.cell? ⟨b, off + k' * 2, none⟩ = some (.int .i64 ty) ∧ W.cell? ⟨b, off + k' * 2 + 1, none⟩ = some (.slice A8 d8.length c8))
                  (exact HM6.out _ (by assumption))
                  ((go_at_call 42; refine (HSM.out _ (by assumption)).mono ?_; rintro e W8 ⟨rfl, hb8⟩; have hD8 := hDD.trans (hb8.mono hDD.size)))
                have K8 := HK6.out _ hD8
                go_wp2_with fail
                exact ⟨⟨k' + 1, _, v2, by simp, K8, ht6⟩, by simp [intOf]; omega⟩
          case inr =>
            subst hp2
            go_wp2_with (refine wpList_cut_to (by rfl) 59 5 (.tmp 67) (.tmp 68) (by rfl) Tryd.underlying59 (by kernel_rfl) A6 rest.length c6 N (N : Int) (by rfl) (by rfl) rfl hNc ?_)
            refine (HF4.out ()).mono ?_
            rintro e W4 ⟨v4, rfl, hf4⟩
            have hrd4 : Reads W4 (· < gs) (cutA A6 c6 N) ((rest.drop N).map vb) := by
              have h1 := (K3.rd.cut (c := c6) (by simp; omega) N).only hf4.only (fun b _ hb ht => by have := turns_ge K3.s b ht; omega)
              rw [← List.map_drop] at h1
              exact h1
            have K4 : Back w W4 gs l k (bs ++ rest.take N) (rest.drop N) (cutA A6 c6 N) v4 := ⟨K3.hk, by rw [List.append_assoc, List.take_append_drop]; exact K3.eq, hrd4, hf4.s, K3.bel.trans (hf4.only.below K3.bel.size (fun i hi => by have := turns_ge K3.s i hi; omega))⟩
            have ht4 : (bs ++ rest.take N).length + (rest.drop N).length ≤ 49152 := by simp; omega
            have hmeas : rest.length - N < rest.length := by omega
            have hlenD : (rest.drop N).length = rest.length - N := by simp
            have hcD : (rest.drop N).length ≤ c6 - N := by rw [hlenD]; omega
            obtain ⟨rs, hrs⟩ : ∃ rs, rs = rest.drop N := ⟨_, rfl⟩
            obtain ⟨A7, hA7⟩ : ∃ A7, A7 = cutA A6 c6 N := ⟨_, rfl⟩
            rw [← hrs] at K4 ht4 hlenD hcD
            rw [← hA7] at K4
            have HRS := Lib.hid fun (_ : Unit) => hlenD
            have HMS := Lib.hid fun (_ : Unit) => hmeas
            have HA7 := Lib.hid fun (_ : Unit) => hA7
            have hq0 := hr0
            clear hf4 hrd4 K K3 hI HF4 hrs hlenD hmeas htot hA7
            go_wp2_with (refine wpList_cut_from (by rfl) 59 5 (.tmp 72) (.tmp 73) (by rfl) Tryd.underlying59 (by kernel_rfl) A6 rest.length c6 N N (by rfl) (by rfl) rfl hNr ?_)
            rw [← HA7.out ()]
            go_loopw [10] (fun kk wy => ∃ (k' : Nat) (bs' : List UInt8) (vs' : Value), kk = .int .i64 k' ∧ Back w wy gs l k' bs' rs A7 vs' ∧ bs'.length + rs.length ≤ 49152) (fun kk _ => l.length - (intOf kk).toNat)
            case atStart => exact ⟨k, _, v4, rfl, K4, ht4⟩
            case round =>
              clear K4 ht4
              obtain ⟨k', bs', vs', rfl, K', ht'⟩ := hrel
              rcases next_case l bs' rs k' K'.hk HOK.out K'.eq with ⟨n1, n2, n3⟩ | ⟨hk', hh, hN', hd, heq⟩
              · have HN := Lib.hid fun (_ : Unit) => next_part K'.s (hL.below K'.bel) (by omega) n1 n2
                clear n1 n2
                go_wp2_with fail
                refine (HN.out ()).mono ?_
                rintro e W5 ⟨rfl, b5⟩
                have K5 := (K'.below b5).below (below_a2 W5 (.cells msgNone 61) (.cells noteNone 68))
                unfold nobody msgNone noteNone at *
                clear K' b5 HN
                go_wp2_with fail
                exact ⟨⟨k', bs', rs, A7, c6 - N, vs', by rw [HRS.out ()]; first | done | rfl | simp, hcD, rfl, K5, ⟨n3⟩, ht'⟩, by first | exact HMS.out () | (simp [lenV]; omega)⟩
              · have hNl := put_len l[k']
                have hmem := List.getElem_mem hk'
                have NM0 := next_msg (l[k']).put.length K'.s (hL.below K'.bel) (by omega) (by rw [hh]) (by
                  rw [hh]
                  have := HOK.out _ hmem
                  simp [MV.ok, fknownB] at this ⊢
                  omega) (by rw [hh, hNl]; simp) (by omega) hN'
                rw [hh] at NM0
                have HNM := Lib.hid fun (_ : Unit) => NM0
                obtain ⟨b, off, hA, q0, q1⟩ := rowM_cells (hq0.below K'.bel (fun _ _ h => h)) hk'
                have hrl := Lib.hid fun (W : World) (hb : Below w.heap.size w W) => (HM.out _ hmem).below hb (fun _ _ h => h)
                have HKS := Lib.hid fun (W : World) (v2 : Value) (ho : Only (fun k => k = gs) wr W) (hs : Strm gs W gs v2 (bs'.drop (l[k']).put.length) 0 0 (.slice none 0 0)) => K'.step hgs (ho.mono (fun i _ h => Or.inl h)) (k' := k' + 1) (by omega) heq hs
                have ht5 : (bs'.drop (l[k']).put.length).length + rs.length ≤ 49152 := by simp; omega
                have hN19 : (l[k']).put.length - 19 = (l[k']).d.length := by omega
                have HOM := Lib.hid fun (W : World) (vm : Value) (h : W.ownsRow wr.heap.size 5 1 vm ((l[k']).put.length - 19) (((bs'.take (l[k']).put.length).drop 19).map vb)) => (show W.ownsRow wr.heap.size 5 1 vm (l[k']).d.length ((l[k']).d.map vb) from by rw [hd, hN19] at h; exact h)
                have hrow := Lib.hid fun (W : World) (hb : Below w.heap.size w W) => rowM_cells (hq0.below hb (fun _ _ h => h)) hk'
                have j1 : (k' : Int) < (l.length : Int) := by omega
                have j2 : (0 : Int) ≤ (k' : Int) := by omega
                have j3 : ¬ (l.length : Int) ≤ (k' : Int) := by omega
                have j4 : decide ((l.length : Int) ≤ (k' : Int)) = false := decide_eq_false j3
                have j5 : ¬ l.length ≤ k' := by omega
                have j6 : decide (l.length ≤ k') = false := decide_eq_false j5
                clear NM0 hN' heq hNl hh hA q0 q1 hd hN19 K' hmem
                go_wp2_with fail
                refine (HNM.out ()).mono ?_
                rintro e W5 ⟨vm, v2, rfl, hnx⟩
                have K5 := HKS.out W5 v2 hnx.only hnx.s
                have om := HOM.out W5 vm hnx.m
                obtain ⟨Am, cm, hvm, -⟩ := own_reads om
                subst hvm
                have al := below_a2 W5 (.cells #[.int .i64 (l[k']).ty, .slice Am (l[k']).d.length cm] 61) (.cells noteNone 68)
                have K6 := K5.below al
                have m6 := (Blk.new W5 61 #[.int .i64 (l[k']).ty, .slice Am (l[k']).d.length cm]).alloc (.cells noteNone 68)
                have om6 := own_alive om al
                have nn6 := Blk.new1 W5 (.cells #[.int .i64 (l[k']).ty, .slice Am (l[k']).d.length cm] 61) 68 noteNone
                have ht6 := ht5
                obtain ⟨b, off, hA, q0, q1⟩ := hrow.out _ K6.bel
                unfold noteNone at *
                obtain ⟨y0, y1⟩ := blk2c m6
                obtain ⟨z0, -⟩ := blk3 nn6
                clear hnx K5 om al HNM HOM HKS ht' ht5 hrow
                generalize l[k'] = mm at *
                obtain ⟨ty, A8, c8, d8⟩ := mm
                simp only at *
                subst hA
                have HSM := Lib.hid fun (W : World) (h : Below ((W5.alloc (.cells #[.int .i64 ty, .slice Am d8.length cm] 61)).alloc (.cells #[.int .i64 0, .int .i64 0, .slice none 0 0] 68)).heap.size ((W5.alloc (.cells #[.int .i64 ty, .slice Am d8.length cm] 61)).alloc (.cells #[.int .i64 0, .int .i64 0, .slice none 0 0] 68)) W) =>
                  (same_msg ⟨ty, Am, cm, d8⟩ ⟨ty, A8, c8, d8⟩ W _ _ (own_reads1 (own_alive om6 h)) (hrl.out W (K6.bel.trans (h.mono K6.bel.size)))).mono fun e w' (hh : _ ∧ _) => (show e = .returned (.bool true) ∧ Below W.heap.size W w' from ⟨hh.1.trans (by simp [sameM, eqB]), hh.2⟩)
                have HK6 := Lib.hid fun (W : World) (h : Below ((W5.alloc (.cells #[.int .i64 ty, .slice Am d8.length cm] 61)).alloc (.cells #[.int .i64 0, .int .i64 0, .slice none 0 0] 68)).heap.size ((W5.alloc (.cells #[.int .i64 ty, .slice Am d8.length cm] 61)).alloc (.cells #[.int .i64 0, .int .i64 0, .slice none 0 0] 68)) W) => K6.below h
                have HM6 := Lib.hid fun (W : World) (h : Below ((W5.alloc (.cells #[.int .i64 ty, .slice Am d8.length cm] 61)).alloc (.cells #[.int .i64 0, .int .i64 0, .slice none 0 0] 68)).heap.size ((W5.alloc (.cells #[.int .i64 ty, .slice Am d8.length cm] 61)).alloc (.cells #[.int .i64 0, .int .i64 0, .slice none 0 0] 68)) W) =>
                  (show W.cell? ⟨W5.heap.size, 0, none⟩ = some (.int .i64 ty) ∧ W.cell? ⟨W5.heap.size, 1, none⟩ = some (.slice Am d8.length cm) ∧ W.cell? ⟨b, off + k' * 2, none⟩ = some (.int .i64 ty) ∧ W.cell? ⟨b, off + k' * 2 + 1, none⟩ = some (.slice A8 d8.length c8) from by
                    obtain ⟨y0, y1⟩ := blk2c (m6.below h m6.lt)
                    exact ⟨y0, y1, (h.cell (p := ⟨b, off + k' * 2, none⟩) (block_lt_of_cell q0)).trans q0, (h.cell (p := ⟨b, off + k' * 2 + 1, none⟩) (block_lt_of_cell q1)).trans q1⟩)
                have hDD : Below ((W5.alloc (.cells #[.int .i64 ty, .slice Am d8.length cm] 61)).alloc (.cells #[.int .i64 0, .int .i64 0, .slice none 0 0] 68)).heap.size ((W5.alloc (.cells #[.int .i64 ty, .slice Am d8.length cm] 61)).alloc (.cells #[.int .i64 0, .int .i64 0, .slice none 0 0] 68)) ((W5.alloc (.cells #[.int .i64 ty, .slice Am d8.length cm] 61)).alloc (.cells #[.int .i64 0, .int .i64 0, .slice none 0 0] 68)).drew := ⟨rfl, rfl, rfl, Nat.le_refl _, fun _ _ => rfl⟩
                have HDD := Lib.hid fun (_ : Unit) => hDD
                clear hDD K6 m6 om6 nn6 hrl
                go_wp2_with fail
                have hDD := HDD.out ()
                go_region_held3 (fun W => W.cell? ⟨W5.heap.size, 0, none⟩ = some (.int .i64 ty) ∧ W.cell? ⟨W5.heap.size, 1, none⟩ = some (.slice Am d8.length cm) ∧ W.cell? ⟨b, off + k' * 2, none⟩ = some (.int .i64 ty) ∧ W.cell? ⟨b, off + k' * 2 + 1, none⟩ = some (.slice A8 d8.length c8))
                  (exact HM6.out _ (by assumption))
                  ((go_at_call 42; refine (HSM.out _ (by assumption)).mono ?_; rintro e W8 ⟨rfl, hb8⟩; have hD8 := hDD.trans (hb8.mono hDD.size)))
                have K8 := HK6.out _ hD8
                go_wp2_with fail
                exact ⟨⟨k' + 1, _, v2, by simp, K8, ht6⟩, by simp [intOf]; omega⟩
end Go.Proofs.YteokhnkipandbaaDoor
