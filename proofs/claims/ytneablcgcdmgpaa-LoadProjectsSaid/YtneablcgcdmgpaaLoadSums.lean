/-
  Loads: a load is the sum of what was added, walked. Under: the numbers read as data.
-/
import Derived.Test.YtneablcgcdmgpaaLoadF
namespace Go.Proofs.Ytneablcgcdmgpaa
open Go.ChangeShapes Go.WideShapes Go.ChangeAt Go.RowKit Go.Maps

/-- one interface's -/
def st (i s : Int) : LD := ⟨if 0 < s then [(i, s)] else [], false⟩
theorem st_get {i s : Int} (h : 0 ≤ s) : getZ (st i s).s i = s := by
  unfold st
  by_cases h0 : 0 < s
  · simp [h0, getZ]
  · simp [h0, getZ]
    omega
theorem st_set {i s n : Int} : setZ (st i s).s i n = (st i n).s := by
  unfold st
  by_cases h0 : 0 < s
  · simp only [h0, if_true, setZ]
    rw [if_neg (Int.lt_irrefl _)]
  · simp [h0, setZ]
theorem st_ok {i s : Int} (hi : 0 ≤ i) (h : s < 9007199254740991) : (st i s).ok := by
  unfold st
  by_cases h0 : 0 < s
  · simp only [h0, if_true]
    refine ⟨List.pairwise_singleton _ _, fun p hp => ?_, fun p hp => ?_, fun p hp e => ?_⟩
    · simp at hp
      subst hp
      exact ⟨h0, by unfold capN; omega⟩
    · simp at hp
      subst hp
      exact hi
    · simp at hp
      subst hp
      simp only [capN] at e
      omega
  · simp only [h0, if_false]
    exact LD.ok_nil
theorem st_add {i s n : Int} (hi : 0 ≤ i) (h0 : 0 ≤ s) (hs : s ≤ 600000000000000) (hn0 : 0 ≤ n) (hn : n ≤ 1099511627776) : (st i s).add i n = st i (s + n) := by
  have e1 : addZ s n = s + n := by
    unfold addZ nearZ
    omega
  have e2 : nearZ n = n := by
    unfold nearZ
    omega
  unfold LD.add
  rw [st_get h0, st_set, e1, e2]
  simp only [hi, if_true, decide_true, Bool.true_and]
  have h1 : isCap n = false := decide_eq_false (by unfold capN; omega)
  have h2 : isCap (s + n) = false := decide_eq_false (by unfold capN; omega)
  rw [h1, h2]
  rfl
theorem st_sub {i s n : Int} (hi : 0 ≤ i) (h0 : n ≤ s) (hs : s ≤ 600000000000000) (hn0 : 0 ≤ n) : (st i s).sub i n = st i (s - n) := by
  have e1 : subZ s n = s - n := by
    unfold subZ nearZ
    omega
  have e2 : nearZ n = n := by
    unfold nearZ
    omega
  unfold LD.sub
  rw [st_get (by omega), st_set, e1, e2]
  simp only [hi, if_true]
  have h1 : isCap n = false := decide_eq_false (by unfold capN; omega)
  rw [h1]
  rfl
theorem st_zero (i : Int) : st i 0 = ⟨[], false⟩ := rfl
def sumI : List Int → Int
  | [] => 0
  | n :: l => n + sumI l
theorem sumI_append : ∀ (l m : List Int), sumI (l ++ m) = sumI l + sumI m
  | [], m => by simp [sumI]
  | n :: l, m => by rw [List.cons_append, sumI, sumI_append l m, sumI]; omega
theorem sumI_take {l : List Int} {k : Nat} (hk : k < l.length) : sumI (l.take (k + 1)) = sumI (l.take k) + l[k] := by
  rw [List.take_succ_eq_append_getElem hk, sumI_append]
  simp [sumI]
theorem sumI_bd : ∀ (l : List Int), (∀ n ∈ l, 0 ≤ n ∧ n ≤ 1099511627776) → 0 ≤ sumI l ∧ sumI l ≤ l.length * 1099511627776
  | [], _ => by simp [sumI]
  | n :: l, h => by
    have h1 := sumI_bd l (fun m hm => h m (by simp [hm]))
    have h2 := h n (by simp)
    simp only [sumI, List.length_cons]
    omega
theorem sumI_split {l : List Int} {k : Nat} : sumI l = sumI (l.take k) + sumI (l.drop k) := by
  rw [← sumI_append, List.take_append_drop]
/-- numbers that came in -/
structure IntsIn (w : World) (A : Option Addr) (l : List Int) : Prop where
  len : l.length ≤ 9223372036854775807
  rd : Reads w (fun _ => True) A (l.map (Value.int .i64))
theorem int_at {w w' : World} {A : Option Addr} {l : List Int} (h : IntsIn w A l) (hb : Below w.heap.size w w') {k : Nat} (hk : k < l.length) : ∃ b off, A = some ⟨b, off, none⟩ ∧ w'.cell? ⟨b, off + k, none⟩ = some (.int .i64 l[k]) := by
  obtain ⟨b, off, e, _, hl, hc⟩ := h.rd.at_ (k := k) (by simpa using hk)
  rw [List.getElem_map] at hc
  exact ⟨b, off, e, (hb.cell (p := ⟨b, off + k, none⟩) hl).trans hc⟩
theorem good_take {l : List Int} {k : Nat} (hk : k < l.length) (h : ∀ n ∈ l.take k, 0 ≤ n ∧ n ≤ 1099511627776) (h2 : 0 ≤ l[k] ∧ l[k] ≤ 1099511627776) : ∀ n ∈ l.take (k + 1), 0 ≤ n ∧ n ≤ 1099511627776 := by
  intro v hv
  rw [List.take_succ_eq_append_getElem hk, List.mem_append] at hv
  rcases hv with hv | hv
  · exact h v hv
  · simp at hv
    exact hv ▸ h2
set_option maxRecDepth 10000 in
set_option maxHeartbeats 8000000 in
theorem sums_walk {w : World} {A : Option Addr} {c : Nat} {l : List Int} (hl : IntsIn w A l) (i : Int) (hi : (Lit.int .i64 i).wf = true) :
    Calls Try.prog 5 #[.slice A l.length c, .int .i64 i] w fun e w' => e = .returned (.bool true) ∧ Below w.heap.size w w' := by
  have hp1 := ptr_some
  have HL := Lib.hid hl
  have hlen := hl.len
  clear hl
  by_cases hin : i < 0 ∨ 500 < l.length
  · by_cases hi0 : i < 0
    · go_enter Try.func5, Try.ntmps5
      go_wp2_with fail
      refine (new_any _).mono ?_
      rintro e w1 ⟨g, b, rfl, _, hb, _, _⟩
      have HB1 := Lib.hid hb
      clear hb
      go_wp2_with fail
      refine (lives_any _).mono ?_
      rintro e w2 ⟨rfl, hb⟩
      have HB2 := Lib.hid (HB1.out.trans (hb.mono HB1.out.size))
      clear hb
      go_wp2_with fail
      refine (lives_any _).mono ?_
      rintro e w3 ⟨rfl, hb⟩
      have HB3 := Lib.hid (HB2.out.trans (hb.mono HB2.out.size))
      clear hb
      go_wp2_with fail
      go_ret
      exact ⟨rfl, HB3.out⟩
    · have h5 : 500 < l.length := by omega
      go_enter Try.func5, Try.ntmps5
      go_wp2_with fail
      refine (new_any _).mono ?_
      rintro e w1 ⟨g, b, rfl, _, hb, _, _⟩
      have HB1 := Lib.hid hb
      clear hb
      go_wp2_with fail
      refine (lives_any _).mono ?_
      rintro e w2 ⟨rfl, hb⟩
      have HB2 := Lib.hid (HB1.out.trans (hb.mono HB1.out.size))
      clear hb
      go_wp2_with fail
      refine (lives_any _).mono ?_
      rintro e w3 ⟨rfl, hb⟩
      have HB3 := Lib.hid (HB2.out.trans (hb.mono HB2.out.size))
      clear hb
      go_wp2_with fail
      go_ret
      exact ⟨rfl, HB3.out⟩
  · have hi0 : 0 ≤ i := by omega
    have h5 : ¬ 500 < l.length := by omega
    clear hin
    go_enter Try.func5, Try.ntmps5
    go_wp2_with fail
    refine (new_any _).mono ?_
    rintro e w1 ⟨g, b, rfl, hL, hb, hg, hbb⟩
    have HB1 := Lib.hid hb
    have HL1 := Lib.hid hL
    clear hb hL
    go_wp2_with fail
    refine (lives_any _).mono ?_
    rintro e w2 ⟨rfl, hb⟩
    have HB2 := Lib.hid (HB1.out.trans (hb.mono HB1.out.size))
    have HL2 := Lib.hid (HL1.out.below hb)
    clear hb HB1 HL1
    go_wp2_with fail
    go_loopw [6, 7] (fun sv j wr => ∃ k : Nat, k ≤ l.length ∧ j = .int .i64 k ∧ sv = .int .i64 (sumI (l.take k)) ∧ (∀ n ∈ l.take k, 0 ≤ n ∧ n ≤ 1099511627776) ∧ LoadsAt wr g b k (st i (sumI (l.take k))) ∧ Below w.heap.size w wr) (fun _ j _ => l.length - (intOf j).toNat)
    case atStart => exact ⟨0, Nat.zero_le _, rfl, rfl, by simp, HL2.out, HB2.out⟩
    case round =>
      obtain ⟨k, hk, rfl, rfl, hgood, hL, hbr⟩ := hrel
      have HLR := Lib.hid hL
      have HBR := Lib.hid hbr
      have HGD := Lib.hid hgood
      have hbd := sumI_bd _ hgood
      have hlk : (l.take k).length ≤ 500 := by rw [List.length_take]; omega
      clear hL hbr hgood
      by_cases hkl : k < l.length
      · obtain ⟨b0, off, rfl, hc⟩ := int_at HL.out HBR.out hkl
        have HS := Lib.hid (sumI_take hkl)
        have HGT := Lib.hid fun h => good_take hkl HGD.out h
        generalize l[k] = n at *
        generalize sumI (l.take k) = s at *
        have hs : s ≤ 600000000000000 := by omega
        by_cases hn : 0 ≤ n ∧ n ≤ 1099511627776
        · obtain ⟨hn0, hn1⟩ := hn
          have HA := Lib.hid (ladd_any HLR.out (st_ok hi0 (by omega)) i n hi (by omega))
          rw [st_add hi0 hbd.1 hs hn0 hn1] at HA
          have HGT2 := Lib.hid (HGT.out ⟨hn0, hn1⟩)
          have hwr : IntKind.i64.wrap (s + n) = s + n := by rw [IntKind.wrap_i64]; omega
          have hcell := Lib.hid fun (w3 : World) (ho : Only (fun k => k = g ∨ k = b) wr w3) => (show Below w.heap.size w w3 from HBR.out.trans (ho.below HBR.out.size (by rintro i (h | h) <;> omega)))
          have HCC := Lib.hid fun (w3 : World) (hb3 : Below w.heap.size w w3) => (show w3.cell? ⟨b0, off + k, none⟩ = some (.int .i64 n) from by
            obtain ⟨b1, off1, e1, h1⟩ := int_at HL.out hb3 hkl
            injection e1 with e1
            injection e1 with e1 e2
            subst e1; subst e2
            have h2 := (int_at HL.out HBR.out hkl)
            obtain ⟨b2, off2, e1, h2⟩ := h2
            injection e1 with e1
            injection e1 with e1 e2
            subst e1; subst e2
            rw [h1, ← h2, hc])
          go_wp2_with fail
          refine (HA.out).mono ?_
          rintro e w3 ⟨rfl, hL3, ho3⟩
          have HB3 := Lib.hid (hcell.out w3 ho3)
          have hc3 := HCC.out w3 HB3.out
          have HL3 := Lib.hid hL3
          have HOV := Lib.hid (over_any hL3)
          have HOF := Lib.hid (of_any hL3 i hi)
          rw [st_get (by omega)] at HOF
          clear hL3 ho3
          go_wp2_with (first | (go_at_call 16; refine (HOV.out).mono ?_; rintro e w' ⟨rfl, rfl⟩) | (go_at_call 17; refine (HOF.out).mono ?_; rintro e w' ⟨rfl, rfl⟩))
          go_roundw
          case rel => exact ⟨k + 1, by omega, by go_num, by rw [HS.out], HGT2.out, by rw [HS.out]; exact HL3.out, HB3.out⟩
          case measure => simp [intOf]; omega
        · by_cases hn0 : n < 0
          · go_wp2_with fail
            go_ret
            exact ⟨rfl, HBR.out⟩
          · have hn1 : 1099511627776 < n := by omega
            go_wp2_with fail
            go_ret
            exact ⟨rfl, HBR.out⟩
      · obtain rfl : k = l.length := by omega
        have HALL := Lib.hid (show ∀ n ∈ l, 0 ≤ n ∧ n ≤ 1099511627776 by have := HGD.out; rwa [List.take_length] at this)
        have HLT := Lib.hid (show LoadsAt wr g b l.length (st i (sumI l - sumI (l.take 0))) by
          have := HLR.out
          rw [List.take_length] at this
          simpa [sumI] using this)
        clear HLR HGD HL2 HB2
        simp only [List.take_length]
        go_wp2_with fail
        go_loopw [8] (fun j w4 => ∃ k : Nat, k ≤ l.length ∧ j = .int .i64 k ∧ LoadsAt w4 g b (l.length + k) (st i (sumI l - sumI (l.take k))) ∧ Below w.heap.size w w4) (fun j _ => l.length - (intOf j).toNat)
        case atStart => exact ⟨0, Nat.zero_le _, rfl, HLT.out, HBR.out⟩
        case round =>
          obtain ⟨k, hk2, rfl, hL, hbr⟩ := hrel
          have HL4 := Lib.hid hL
          have HB4 := Lib.hid hbr
          clear hL hbr
          by_cases hkl : k < l.length
          · obtain ⟨b0, off, rfl, hc⟩ := int_at HL.out HB4.out hkl
            have HS := Lib.hid (sumI_take hkl)
            have hsp := sumI_split (l := l) (k := k + 1)
            have hbd := sumI_bd l HALL.out
            have hbd2 := sumI_bd (l.take k) (fun n hn => HALL.out n (List.mem_of_mem_take hn))
            have hbd3 := sumI_bd (l.drop (k + 1)) (fun n hn => HALL.out n (List.mem_of_mem_drop hn))
            have hnb := HALL.out _ (List.getElem_mem hkl)
            rw [HS.out] at hsp
            generalize l[k] = n at *
            generalize sumI (l.take k) = s at *
            generalize sumI (l.drop (k + 1)) = s3 at *
            generalize sumI l = tot at *
            have htot : tot ≤ 600000000000000 := by omega
            have HA := Lib.hid (lsub_any HL4.out (st_ok hi0 (by omega)) i n hi (by omega))
            rw [st_sub hi0 (by omega) (by omega) hnb.1] at HA
            clear hsp hbd hbd2 hbd3
            go_wp2_with fail
            refine (HA.out).mono ?_
            rintro e w3 ⟨rfl, hL3, ho3⟩
            have HB3 := Lib.hid (show Below w.heap.size w w3 from HB4.out.trans (ho3.below HB4.out.size (by rintro i (h | h) <;> omega)))
            have HL3 := Lib.hid hL3
            clear hL3 ho3
            go_wp2_with fail
            go_roundw
            case rel => exact ⟨k + 1, by omega, by go_num, by rw [HS.out, show tot - (s + n) = tot - s - n by omega]; exact HL3.out, HB3.out⟩
            case measure => simp [intOf]; omega
          · obtain rfl : k = l.length := by omega
            have HF := Lib.hid (show LoadsAt wr g b (l.length + l.length) ⟨[], false⟩ by
              have := HL4.out
              rw [List.take_length, Int.sub_self, st_zero] at this
              exact this)
            have HOF := Lib.hid (of_any HF.out i hi)
            rw [show getZ (LD.mk [] false).s i = 0 from rfl] at HOF
            have HAL := Lib.hid (all_any HF.out LD.ok_nil (by omega))
            go_wp2_with (go_at_call 17; refine (HOF.out).mono ?_; rintro e w' ⟨rfl, rfl⟩)
            refine (HAL.out).mono ?_
            rintro e w5 ⟨v, rfl, hown, hb5⟩
            obtain ⟨A5, c5, rfl, _⟩ := own_readsN hown
            have HB5 := Lib.hid (HB4.out.trans (hb5.mono HB4.out.size))
            clear hown hb5
            go_wp2_with fail
            go_ret
            exact ⟨rfl, HB5.out⟩
end Go.Proofs.Ytneablcgcdmgpaa
