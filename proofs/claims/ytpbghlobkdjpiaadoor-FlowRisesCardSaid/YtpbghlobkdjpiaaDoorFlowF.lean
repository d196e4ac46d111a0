/-
  Flow: a graph, and the number of a cut. Under: the library's table stands as its text lays it.
-/
import Derived.Test.YtpbghlobkdjpiaaDoorFlowE
import Derived.Maps.RangeWalk
namespace Go.Proofs.YtpbghlobkdjpiaaDoor
open Go.ChangeShapes Go.WideShapes Go.ChangeAt Go.RowKit Go.Maps

/-- how much goes by each set of ways, as a map reads -/
structure ByOf (D : DataW Unit) (l : List (Nat × Int)) : Prop where
  at_ : ∀ x, D.atKey (.int .i64 x) (.lit (.int .i64 0)) = .lit (.int .i64 (byZ l x))
  has : ∀ x, Maps.has D (.int .i64 x) = l.any fun p => decide ((p.1 : Int) = x)
theorem ByOf.nil : ByOf (.map []) [] := ⟨fun x => by simp [DataW.atKey, byZ, sumIf, capZ_zero], fun x => by simp [Maps.has]⟩
theorem ByOf.snoc {D : DataW Unit} {l : List (Nat × Int)} (h : ByOf D l) (hm : Maps.IsMap D) (x : Nat) (n : Int) : ByOf (D.put (.int .i64 x) (.lit (.int .i64 (addZ (byZ l x) n)))) (l ++ [(x, n)]) := by
  refine ⟨fun y => ?_, fun y => ?_⟩
  · by_cases e : y = (x : Int)
    · subst e
      rw [Maps.atKey_put_same hm (show WideAt.IsKeyLit (Lit.int .i64 (x : Int)) from trivial), byZ_snoc_same]
    · rw [Maps.atKey_put_other (key_ne e), h.at_, byZ_snoc_other _ _ _ e]
  · by_cases e : y = (x : Int)
    · subst e
      rw [Maps.has_put_same hm (show WideAt.IsKeyLit (Lit.int .i64 (x : Int)) from trivial)]
      simp
    · rw [Maps.has_put_other (key_ne e), h.has]
      have : ¬ ((x : Int) = y) := fun h => e h.symm
      simp [this]

/-- a graph in memory, all of it from block B on -/
structure Graph (w : World) (B gb ba bb : Nat) (ifs : List Int) (ns : List Int) (l : List (Nat × Int)) : Prop where
  rooms : ∃ A c, Blk w gb 70 #[.slice A ns.length c, .map (some ba), .map (some bb)] ∧ w.ownsRow B 3 1 (.slice A ns.length c) ns.length (ns.map (Value.int .i64))
  places : ∃ n D, w.ownsMap Tryd.prog 3 (plainElem Tryd.prog 3) ba n D ∧ AtOf D ifs
  by_ : ∃ n D, w.ownsMap Tryd.prog 3 (plainElem Tryd.prog 3) bb n D ∧ ByOf D l

/-- the number of a cut, by sets of ways -/
def cutN (rs : List (Int × Int)) (l : List (Nat × Int)) (set : Nat) : Int := capZ (roomsTo rs set rs.length + sumIf (fun p => crossN p.1 set) Prod.snd l)
theorem cutN_eq {rs : List (Int × Int)} (h : okR rs = true) (ws : List FW) (set : Nat) : cutN rs (pairsOf (ifsOf rs) ws) set = cutZ rs ws set := by
  simp only [okR, Bool.and_eq_true, decide_eq_true_eq] at h
  unfold cutN cutZ
  rw [wants_pairs h.1.2 h.2]

/-- the loop over the sets of ways under way -/
def CutIn (W0 : World) (a0 : Int) (l : List (Nat × Int)) (set bb r nb : Nat) (D : DataW Unit) (n : Value) (w2 : World) : Prop :=
  ∃ (left : Lit → Bool) (cnt : Nat), w2.ranges Tryd.prog 3 (plainElem Tryd.prog 3) bb r nb D left cnt ∧ (∀ kl, left kl = true → Maps.has D kl = true) ∧ n = .int .i64 (capZ (a0 + doneOf l set (fun x => left (.int .i64 x)))) ∧ Below W0.heap.size W0 w2
theorem ret_i {a b : Int} (h : a = b) : Ending.returned (.int .i64 a) = .returned (.int .i64 b) := by rw [h]
theorem roomAt_eq {rs : List (Int × Int)} {k : Nat} (hk : k < rs.length) : rs[k].2 = roomAt rs k := by simp [roomAt, hk]
set_option maxHeartbeats 2000000 in
theorem cut_any {w : World} {B gb ba bb : Nat} (rs : List (Int × Int)) (l : List (Nat × Int)) (ifs : List Int) (hg : Graph w B gb ba bb ifs (rs.map (·.2)) l) (hl : rs.length ≤ 10) (hT : TzAt w) (set : Nat) (hs : set < 2 ^ rs.length) (h1024 : ∀ p ∈ l, p.1 < 1024) :
    Calls Tryd.prog 27 #[.pointer (some ⟨gb, 0, none⟩), .int .i64 set] w fun e w' => e = .returned (.int .i64 (cutN rs l set)) ∧ Below w.heap.size w w' := by
  obtain ⟨A, c, hblk, hrow⟩ := hg.rooms
  obtain ⟨nb, D, hown, hby⟩ := hg.by_
  clear hg
  have hgl := hblk.lt
  have hbl := hown.lt
  have hTl : ∀ W, Below w.heap.size w W → TzAt W := fun W hb j hj => by
    have h1 := hT j hj
    have h2 : 1 < w.heap.size := block_lt_of_cell h1
    exact (hb.cell (p := ⟨1, j, none⟩) h2).trans h1
  obtain ⟨_, _, hv, _, _, _, hrd⟩ := own_reads hrow
  injection hv with h1 _ h2
  subst h1
  subst h2
  simp only [List.length_map] at hblk hrow hrd
  have hc0 := hblk.cell 0
  have hc2 := hblk.cell 2
  simp at hc0 hc2
  have hRA := Lib.hid fun (k : Nat) (hk : k < rs.length) => hrd.at_ (k := k) (by simpa using hk)
  have HT := Lib.hid hTl
  have HC := Lib.hid (fun W (hb : Below w.heap.size w W) => (⟨(hb.cell (p := ⟨gb, 0, none⟩) hgl).trans hc0, (hb.cell (p := ⟨gb, 2, none⟩) hgl).trans hc2⟩ : W.cell? ⟨gb, 0, none⟩ = some (.slice A rs.length c) ∧ W.cell? ⟨gb, 2, none⟩ = some (.map (some bb))))
  have HOWN := Lib.hid (fun W (hb : Below w.heap.size w W) => ownsMap_below hown hb hbl)
  have HBY := Lib.hid hby
  have HST := Lib.hid (got_step rs hl set)
  have H10 := Lib.hid h1024
  have HS := Lib.hid hs
  have h210 : 2 ^ rs.length ≤ 2 ^ 10 := Nat.pow_le_pow_right (by decide) hl
  have hset : set < 1024 := by omega
  clear hblk hrow hrd hc0 hc2 hT hTl hby h1024 hs h210 hown
  go_enter Tryd.func27, Tryd.ntmps27
  go_wp2_with fail
  go_loopw [5, 6] (fun n i wr => ∃ m : Nat, m ≤ set ∧ i = .int .i64 m ∧ n = .int .i64 (capZ (gotOf rs set m)) ∧ (∀ j, m.testBit j = true → set.testBit j = true) ∧ Below w.heap.size w wr) (fun _ i _ => (intOf i).toNat)
  case atStart => exact ⟨set, Nat.le_refl _, rfl, by rw [got_start, capZ_zero], fun _ h => h, Below.refl _ _⟩
  case round =>
    obtain ⟨m, hms, rfl, rfl, hbits, hb⟩ := hrel
    have HBI := Lib.hid hbits
    clear hbits
    obtain ⟨hc0, hc2⟩ := HC.out _ hb
    by_cases hm0 : m = 0
    · subst hm0
      rw [show ((0 : Nat) : Int) = 0 from rfl]
      have hown := HOWN.out _ hb
      have HE := Lib.hid (show cutN rs l set = capZ (gotOf rs set 0 + doneOf l set (fun _ => false)) by rw [got_end, done_end _ _ _ (fun _ => rfl)]; rfl)
      have hgn := gotOf_nonneg rs set 0
      generalize gotOf rs set 0 = a0 at *
      go_wp2_with (at_range; refine wpList_range_own _ rfl _ 68 rfl 3 3 law3 Tryd.underlying68 _ bb nb D rfl hown ?_; intro w0 hrg0 hg0 hs0)
      go_frame
      have hb0 := hb.grown hg0 hb.size (fun j hj => by cases hj)
      obtain ⟨r, hr⟩ : ∃ r, r = wr.heap.size := ⟨_, rfl⟩
      have hrw : w.heap.size ≤ r := by rw [hr]; exact hb.size
      rw [← hr] at hrg0 ⊢
      have HHR := Lib.hid hr
      clear hr hs0 hc0 hc2 hown
      go_loopw [5] (fun n w2 => CutIn w a0 l set bb r nb D n w2) (fun _ w2 => w2.rangeLeft bb r)
      case atStart => exact ⟨_, _, hrg0, fun _ h => h, by rw [done_start _ _ _ (fun p hp => by rw [HBY.out.has]; exact List.any_eq_true.2 ⟨p, hp, by simp⟩)]; simp, hb0⟩
      case round =>
        obtain ⟨left, cnt, hrg, hleft, rfl, hb2⟩ := hrel
        have HLE := Lib.hid hleft
        clear hleft
        go_wp2_with (at_next; refine wpList_next_ranges_ii _ rfl _ rfl 3 3 .i64 .i64 law3 Tryd.underlying3 Tryd.underlying3 bb r nb _ _ _ rfl hrg ?_ ?_)
        · intro hc0 hl0
          have HL0 := Lib.hid hl0
          clear hl0
          go_wp2_with fail
          go_ret
          exact ⟨ret_i (a := capZ (a0 + doneOf l set (fun x => left (.int .i64 x)))) (by rw [HE.out]; congr 2; exact sumIf_congr _ _ (fun p _ => by simp only [HL0.out])), hb2⟩
        · intro x c w1 cnt1 hwx hwc hlx hat hrg1 hlt hg1 hs1 hen
          have hat := hat (.lit (.int .i64 0))
          rw [HBY.out.at_] at hat
          have hh := HLE.out _ hlx
          rw [HBY.out.has] at hh
          obtain ⟨p, hp, hpx⟩ := List.any_eq_true.1 hh
          have hpx := of_decide_eq_true hpx
          have hp1 := H10.out p hp
          subst hpx
          obtain ⟨px, pn⟩ := p
          simp only at *
          injection hat with hat
          injection hat with _ hat
          have hb3 := hb2.grown hg1 hb2.size (fun j hj => by cases hj; exact hrw)
          have hand := bits_andNot_n px set hp1
          have hdn := done_step l set px (fun x => left (.int .i64 x)) (fun x => left (.int .i64 x) && !(Lit.int .i64 x).sameKey (.int .i64 px)) hlx (fun y => by
            congr 1
            by_cases e : y = (px : Int)
            · subst e
              simp [Lit.sameKey]
            · simp [Lit.sameKey, e])
          have HDN := Lib.hid hdn
          have hdnn := doneOf_nonneg l set (fun x => left (.int .i64 x))
          have HLF := Lib.hid (fun kl (h : (left kl && !kl.sameKey (.int .i64 px)) = true) => HLE.out kl (by simp at h; exact h.1))
          have hsn : 0 ≤ sumIf (fun p : Nat × Int => decide ((p.1 : Int) = px)) Prod.snd l := sumIf_nonneg _ _ _
          have HC2 := Lib.hid hat
          clear hat hh hp hdn
          obtain ⟨z, hz⟩ : ∃ z, bits .andNot .i64 (px : Int) (set : Int) = z := ⟨_, rfl⟩
          rw [hz] at hand
          cases hcr : crossN px set with
          | true =>
            have hz0 : ¬ z = 0 := fun e => by rw [hand.1 e] at hcr; cases hcr
            have HCR := Lib.hid hcr
            clear hand hcr
            have HAD := Lib.hid (addZ_caps (t := a0 + doneOf l set (fun x => left (.int .i64 x))) (by omega) hsn)
            clear hsn hdnn
            go_wp2_with (go_at_call 22; refine (add_any _ _ _).mono ?_; rintro e w' ⟨rfl, rfl⟩)
            go_roundw
            case rel => exact ⟨_, cnt1, hrg1, HLF.out, by rw [HDN.out, if_pos HCR.out, ← Int.add_assoc, ← HAD.out, ← HC2.out]; rfl, hb3⟩
            case measure => rw [hrg1.left_eq, hrg.left_eq]; exact hlt
          | false =>
            have hz0 : z = 0 := hand.2 hcr
            have HCR := Lib.hid hcr
            rw [hz0] at hz
            clear hand hcr hz0 hsn hdnn
            go_wp2_with fail
            go_roundw
            case rel => exact ⟨_, cnt1, hrg1, HLF.out, by rw [HDN.out, HCR.out]; simp, hb3⟩
            case measure => rw [hrg1.left_eq, hrg.left_eq]; exact hlt
    · obtain ⟨hk, hlt, hbits2, hgot⟩ := HST.out m HS.out HBI.out hm0
      have htz := Lib.hid fun W (hb : Below w.heap.size w W) => tz_any m (by omega) hm0 W (HT.out W hb)
      have hand := bits_and_n m (m - 1) (by omega) (by omega)
      rw [show (((m - 1 : Nat) : Int)) = (m : Int) - 1 by omega] at hand
      have HG := Lib.hid hgot
      have HRA := Lib.hid (roomAt_eq hk)
      have HB2 := Lib.hid hbits2
      have hu : IntKind.u64.wrap (m : Int) = (m : Int) := by rw [IntKind.wrap_u64]; omega
      have hm1 : ¬ (m : Int) = 0 := by omega
      obtain ⟨b, off, rfl, _, hbw, hck⟩ := hRA.out _ hk
      generalize Lib.ctz 64 m = k at *
      generalize m &&& (m - 1) = m' at *
      clear hgot hbits2
      have hck := (hb.cell (p := ⟨b, off + k, none⟩) hbw).trans hck
      go_wp2_with fail
      go_quiet ((first | (go_at_call 31; exact quiet_same (htz.out _ (below_drewN' hb _))) | (go_at_call 22; exact quiet_same (add_any _ _ _))))
      have HAD := Lib.hid (addZ_cap (roomAt rs k) (gotOf_nonneg rs set m))
      go_wp2_with fail
      go_roundw
      case rel => exact ⟨m', by omega, rfl, by rw [HG.out, ← HAD.out, ← HRA.out], HB2.out, below_drewN' hb _⟩
      case measure => simp [intOf]; omega
end Go.Proofs.YtpbghlobkdjpiaaDoor
