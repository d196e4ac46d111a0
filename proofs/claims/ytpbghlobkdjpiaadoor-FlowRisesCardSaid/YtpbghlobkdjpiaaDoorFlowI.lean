/-
  Flow: the number of any cut, as the program tells it. Under: rooms and wants read as data; the library's table stands as its text lays it.
-/
import Derived.Test.YtpbghlobkdjpiaaDoorFlowH
namespace Go.Proofs.YtpbghlobkdjpiaaDoor
open Go.ChangeShapes Go.WideShapes Go.ChangeAt Go.RowKit Go.Maps

/-- numbers that came in -/
structure IntsIn (w : World) (A : Option Addr) (l : List Int) : Prop where
  len : l.length ≤ 9223372036854775807
  rd : Reads w (fun _ => True) A (l.map (Value.int .i64))
  wf : ∀ n ∈ l, (Lit.int .i64 n).wf = true
theorem IntsIn.below {w w' : World} {A : Option Addr} {l : List Int} (h : IntsIn w A l) (hb : Below w.heap.size w w') : IntsIn w' A l := ⟨h.len, h.rd.below hb (fun _ h _ => h), h.wf⟩
/-- have all of them a room? -/
def inAll (ifs some : List Int) : Bool := some.all fun x => decide (x ∈ ifs)
theorem inAll_not {ifs l : List Int} {k : Nat} (hk : k < l.length) (h : l[k] ∉ ifs) : inAll ifs l = false := List.all_eq_false.2 ⟨l[k], List.getElem_mem hk, by simpa using h⟩
theorem bitN_pos {ifs : List Int} {x : Int} (h : x ∈ ifs) : 0 < bitN ifs x := by
  unfold bitN
  rw [if_pos h]
  exact Nat.two_pow_pos _
theorem bitN_zero {ifs : List Int} {x : Int} (h : x ∉ ifs) : bitN ifs x = 0 := if_neg h
theorem waysTo_lt2 {rs : List (Int × Int)} (hn : (ifsOf rs).Nodup) (xs : List Int) : waysTo (ifsOf rs) xs < 2 ^ rs.length :=
  Nat.lt_pow_two_of_testBit _ fun i hi => by
    rw [waysTo_in hn, decide_eq_false (by omega)]
    rfl
theorem ret_2 {a b c d : Int} (h : a = b) (k : c = d) : Ending.returned (.tuple #[.int .i64 a, .int .i64 c]) = .returned (.tuple #[.int .i64 b, .int .i64 d]) := by rw [h, k]
def cutV (rs : List (Int × Int)) (ws : List FW) (l : List Int) : Int := if inAll (ifsOf rs) l then cutZ rs ws (waysTo (ifsOf rs) l) else 0
def cutE (rs : List (Int × Int)) (l : List Int) : Int := if inAll (ifsOf rs) l then 0 else 4

set_option maxHeartbeats 1000000 in
theorem fcut_ok {w : World} {A A' A2 : Option Addr} {c c' c2 : Nat} {rs : List (Int × Int)} {ws : List WV} {l : List Int} (hr : RoomsIn w A rs) (hw : WantsIn w A' ws) (hl : IntsIn w A2 l) (hok : okR rs = true) (hn : ws.length ≤ 1024) (hT : TzAt w) :
    Calls Tryd.prog 15 #[.slice A rs.length c, .slice A' ws.length c', .slice A2 l.length c2] w fun e w' => e = .returned (.tuple #[.int .i64 (cutV rs (ws.map WV.fw) l), .int .i64 (cutE rs l)]) ∧ Below w.heap.size w w' := by
  have H := Lib.hid fun (_ : Unit) => build_ok A A' c c' rs ws hr.rd hr.wf hok hn hw.rd hw.all
  have HT := Lib.hid hT
  have HOK := Lib.hid hok
  have HL := Lib.hid hl
  have hll := hl.len
  have hok2 := hok
  simp only [okR, Bool.and_eq_true, decide_eq_true_eq] at hok2
  have HN := Lib.hid hok2.1.2
  have hl10 := hok2.2
  clear hr hw hok hT hl hok2
  go_enter Tryd.func15, Tryd.ntmps15
  go_wp2_with fail
  refine (H.out ()).mono ?_
  rintro e w1 ⟨gb, ba, bb, rfl, hg, hb⟩
  have HG := Lib.hid hg
  clear hg H
  go_wp2_with fail
  go_loopw [10, 25] (fun s i wr => ∃ k : Nat, k ≤ l.length ∧ i = .int .i64 k ∧ s = .int .i64 (waysTo (ifsOf rs) (l.take k)) ∧ inAll (ifsOf rs) (l.take k) = true ∧ Below w1.heap.size w1 wr) (fun _ i _ => l.length - (intOf i).toNat)
  case atStart => exact ⟨0, Nat.zero_le _, rfl, rfl, rfl, Below.refl _ _⟩
  case round =>
    obtain ⟨k, hk, rfl, rfl, hin, hb1⟩ := hrel
    have HI := Lib.hid hin
    clear hin
    have HB := Lib.hid (hb.trans (hb1.mono hb.size))
    by_cases hkl : k < l.length
    · obtain ⟨b, off, rfl, _, hbw, hck⟩ := HL.out.rd.at_ (k := k) (by simpa using hkl)
      have hck := (HB.out.cell (p := ⟨b, off + k, none⟩) hbw).trans hck
      simp only [List.getElem_map] at hck
      have hx := HL.out.wf _ (List.getElem_mem hkl)
      have HNI := Lib.hid (inAll_not (ifs := ifsOf rs) hkl)
      have HX := Lib.hid (show waysTo (ifsOf rs) (l.take (k + 1)) = waysTo (ifsOf rs) (l.take k) ||| bitN (ifsOf rs) l[k] by rw [List.take_succ_eq_append_getElem hkl, waysTo_snoc])
      have HIS := Lib.hid (show inAll (ifsOf rs) (l.take (k + 1)) = (inAll (ifsOf rs) (l.take k) && decide (l[k] ∈ ifsOf rs)) by rw [List.take_succ_eq_append_getElem hkl]; unfold inAll; rw [List.all_append]; simp only [List.all_cons, List.all_nil, Bool.and_true])
      generalize l[k] = x at *
      have hw1 := waysTo_small (ifsOf rs) (by simpa [ifsOf] using hl10) (l.take k)
      have hw2 := bitN_lt (ifsOf rs) (by simpa [ifsOf] using hl10) x
      have hor := bits_or_n (waysTo (ifsOf rs) (l.take k)) (bitN (ifsOf rs) x) (by omega) (by omega)
      have HBIT := Lib.hid (show Calls Tryd.prog 26 #[.pointer (some ⟨gb, 0, none⟩), .int .i64 x] wr fun e w' => e = .returned (.int .i64 (bitN (ifsOf rs) x)) ∧ wr = w' from by
        have hgr := HG.out.below hb1
        obtain ⟨Ar, cr, h1, _⟩ := hgr.rooms
        obtain ⟨n1, D, h3, h4⟩ := hgr.places
        exact bit_any (by rw [h1.cell 1]; rfl) h3 h4 (by simpa [ifsOf] using hl10) x hx)
      clear hx
      by_cases hxi : x ∈ ifsOf rs
      · have hz : ¬ (bitN (ifsOf rs) x : Int) = 0 := by have := bitN_pos hxi; omega
        have HXI := Lib.hid hxi
        clear hxi
        go_wp2_with fail
        refine (HBIT.out).mono ?_
        rintro e w' ⟨rfl, rfl⟩
        go_wp2_with fail
        go_roundw
        case rel => exact ⟨k + 1, by omega, by go_num, by rw [HX.out], by rw [HIS.out, HI.out, decide_eq_true HXI.out]; rfl, hb1⟩
        case measure => simp [intOf]; omega
      · have HE := Lib.hid (HNI.out hxi)
        have hz := bitN_zero hxi
        have HZ := Lib.hid hz
        clear hxi hor hw2 hz
        go_wp2_with fail
        refine (HBIT.out).mono ?_
        rintro e w' ⟨rfl, rfl⟩
        rw [HZ.out]
        go_wp2_with fail
        go_ret2
        exact ⟨ret_2 (by simp [cutV, HE.out]) (by simp [cutE, HE.out]), HB.out⟩
    · obtain rfl : k = l.length := by omega
      have hin := HI.out
      rw [List.take_length] at hin
      have HV := Lib.hid (show cutV rs (ws.map WV.fw) l = cutZ rs (ws.map WV.fw) (waysTo (ifsOf rs) l) by simp [cutV, hin])
      have HE := Lib.hid (show cutE rs l = 0 by simp [cutE, hin])
      have HC := Lib.hid (cut_any rs _ _ (HG.out.below hb1) hl10 (HT.out.below HB.out) (waysTo (ifsOf rs) l) (waysTo_lt2 HN.out _) (pairs_small HOK.out _))
      clear hin
      go_wp2_with fail
      refine (HC.out).mono ?_
      rintro e w2 ⟨rfl, hb2⟩
      rw [cutN_eq HOK.out]
      go_wp2_with fail
      go_ret2
      exact ⟨ret_2 (by rw [HV.out]) (by rw [HE.out]), HB.out.trans (hb2.mono HB.out.size)⟩
theorem fcut_bad {w : World} {A A' : Option Addr} {c c' : Nat} {rs : List (Int × Int)} (n' : Nat) (v : Value) (hr : RoomsIn w A rs) (hok : okR rs = false) :
    Calls Tryd.prog 15 #[.slice A rs.length c, .slice A' n' c', v] w fun e w' => e = .returned (.tuple #[.int .i64 0, .int .i64 1]) ∧ Below w.heap.size w w' := by
  have H := Lib.hid fun (_ : Unit) => build_bad A A' c n' c' rs hr.len hr.rd hr.wf hok
  clear hr hok
  go_enter Tryd.func15, Tryd.ntmps15
  go_wp2_with fail
  refine (H.out ()).mono ?_
  rintro e w1 ⟨rfl, hb⟩
  go_wp2_with fail
  go_ret2
  exact ⟨rfl, hb⟩
end Go.Proofs.YtpbghlobkdjpiaaDoor
