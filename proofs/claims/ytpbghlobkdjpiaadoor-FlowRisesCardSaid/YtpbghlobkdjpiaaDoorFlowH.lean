/-
  Flow: the least cut, the most, what is lacking, any cut. Under: rooms and wants read as data; the library's table stands as its text lays it.
-/
import Derived.Test.YtpbghlobkdjpiaaDoorFlowG
namespace Go.Proofs.YtpbghlobkdjpiaaDoor
open Go.ChangeShapes Go.WideShapes Go.ChangeAt Go.RowKit Go.Maps

theorem Graph.below {w w' : World} {B gb ba bb : Nat} {ifs ns : List Int} {l : List (Nat × Int)} (h : Graph w B gb ba bb ifs ns l) (hb : Below w.heap.size w w') : Graph w' B gb ba bb ifs ns l := by
  obtain ⟨A, c, h1, h2⟩ := h.rooms
  obtain ⟨n1, D, h3, h4⟩ := h.places
  obtain ⟨n2, D', h5, h6⟩ := h.by_
  exact ⟨⟨A, c, h1.below hb h1.lt, own_alive h2 hb⟩, ⟨n1, D, ownsMap_below h3 hb h3.lt, h4⟩, ⟨n2, D', ownsMap_below h5 hb h5.lt, h6⟩⟩
theorem TzAt.below {w w' : World} (h : TzAt w) (hb : Below w.heap.size w w') : TzAt w' := fun j hj => by
  have h1 := h j hj
  have h2 : 1 < w.heap.size := block_lt_of_cell h1
  exact (hb.cell (p := ⟨1, j, none⟩) h2).trans h1
theorem pairs_small {rs : List (Int × Int)} (h : okR rs = true) (ws : List FW) : ∀ p ∈ pairsOf (ifsOf rs) ws, p.1 < 1024 := by
  intro p hp
  simp only [okR, Bool.and_eq_true, decide_eq_true_eq] at h
  obtain ⟨v, _, rfl⟩ := List.mem_map.1 hp
  exact waysTo_small _ (by simpa [ifsOf] using h.2) _

set_option maxHeartbeats 1000000 in
theorem least_any {w : World} {B gb ba bb : Nat} (rs : List (Int × Int)) (ws : List FW) (hok : okR rs = true) (hg : Graph w B gb ba bb (ifsOf rs) (rs.map (·.2)) (pairsOf (ifsOf rs) ws)) (hT : TzAt w) :
    Calls Tryd.prog 21 #[.pointer (some ⟨gb, 0, none⟩)] w fun e w' => e = .returned (.int .i64 (leastZ rs ws)) ∧ Below w.heap.size w w' := by
  have hl : rs.length ≤ 10 := by simp only [okR, Bool.and_eq_true, decide_eq_true_eq] at hok; exact hok.2
  have HC := Lib.hid fun (W : World) (hb : Below w.heap.size w W) (s : Nat) (hs : s < 2 ^ rs.length) => cut_any rs _ _ (hg.below hb) hl (hT.below hb) s hs (pairs_small hok ws)
  have HE := Lib.hid (cutN_eq hok ws)
  obtain ⟨A, c, h1, _⟩ := hg.rooms
  have hc0 := h1.cell 0
  simp at hc0
  have hw := wrap_pow rs.length hl
  have h210 : 2 ^ rs.length ≤ 2 ^ 10 := Nat.pow_le_pow_right (by decide) hl
  have HL := Lib.hid (show leastZ rs ws = leastTo rs ws (2 ^ rs.length) from rfl)
  obtain ⟨M, hM⟩ : ∃ M, M = 2 ^ rs.length := ⟨_, rfl⟩
  rw [← hM] at hw HL HC h210
  clear hg hT h1 hM hok
  go_enter Tryd.func21, Tryd.ntmps21
  go_wp2_with fail
  go_loopw [3, 11] (fun b i wr => ∃ s : Nat, s ≤ M ∧ i = .int .i64 s ∧ b = .int .i64 (leastTo rs ws s) ∧ Below w.heap.size w wr) (fun _ i _ => M - (intOf i).toNat)
  case atStart => exact ⟨0, Nat.zero_le _, rfl, rfl, Below.refl _ _⟩
  case round =>
    obtain ⟨s, hs, rfl, rfl, hb⟩ := hrel
    by_cases hsM : s < M
    · have hmin : leastTo rs ws (s + 1) = min (leastTo rs ws s) (cutZ rs ws s) := rfl
      have HM := Lib.hid hmin
      clear hmin
      go_wp2_with fail
      refine (HC.out _ hb s hsM).mono ?_
      rintro e w1 ⟨rfl, hb1⟩
      rw [HE.out]
      go_wp2_with fail
      all_goals
        refine ⟨⟨_, _, _, ⟨s + 1, by omega, ?_, ?_, hb.trans (hb1.mono hb.size)⟩, rfl, rfl, rfl⟩, ?_⟩
        · go_num
        · rw [HM.out]
          exact congrArg _ (by omega)
        · simp [intOf]
          omega
    · obtain rfl : s = M := by omega
      go_wp2_with fail
      go_ret
      exact ⟨ret_i (by rw [HL.out]), hb⟩

/-- rooms, wants, numbers that came in -/
structure RoomsIn (w : World) (A : Option Addr) (rs : List (Int × Int)) : Prop where
  len : rs.length ≤ 9223372036854775807
  rd : Reads w (fun _ => True) A (roomCells rs)
  wf : RoomsWf rs
structure WantsIn (w : World) (A : Option Addr) (ws : List WV) : Prop where
  len : ws.length ≤ 9223372036854775807
  rd : Reads w (fun _ => True) A (wantCells ws)
  all : ∀ v ∈ ws, v.ok ∧ Reads w (fun _ => True) v.D (optCells v.ds)
theorem RoomsIn.below {w w' : World} {A : Option Addr} {rs : List (Int × Int)} (h : RoomsIn w A rs) (hb : Below w.heap.size w w') : RoomsIn w' A rs := ⟨h.len, h.rd.below hb (fun _ h _ => h), h.wf⟩
theorem WantsIn.below {w w' : World} {A : Option Addr} {ws : List WV} (h : WantsIn w A ws) (hb : Below w.heap.size w w') : WantsIn w' A ws := ⟨h.len, h.rd.below hb (fun _ h _ => h), fun v hv => ⟨(h.all v hv).1, (h.all v hv).2.below hb (fun _ h _ => h)⟩⟩

section
variable {w : World} {A A' : Option Addr} {c c' : Nat} {rs : List (Int × Int)} {ws : List WV}
theorem most_bad (n' : Nat) (hr : RoomsIn w A rs) (hok : okR rs = false) :
    Calls Tryd.prog 8 #[.slice A rs.length c, .slice A' n' c'] w fun e w' => e = .returned (.tuple #[.int .i64 0, .int .i64 1]) ∧ Below w.heap.size w w' := by
  have H := Lib.hid fun (_ : Unit) => build_bad A A' c n' c' rs hr.len hr.rd hr.wf hok
  clear hr hok
  go_enter Tryd.func8, Tryd.ntmps8
  go_wp2_with fail
  refine (H.out ()).mono ?_
  rintro e w1 ⟨rfl, hb⟩
  go_wp2_with fail
  go_ret2
  exact ⟨rfl, hb⟩
theorem most_long (n' : Nat) (hr : RoomsIn w A rs) (hok : okR rs = true) (hn : 1024 < n') :
    Calls Tryd.prog 8 #[.slice A rs.length c, .slice A' n' c'] w fun e w' => e = .returned (.tuple #[.int .i64 0, .int .i64 3]) ∧ Below w.heap.size w w' := by
  have H := Lib.hid fun (_ : Unit) => build_long A A' c n' c' rs hr.len hr.rd hr.wf hok hn
  clear hr hok
  go_enter Tryd.func8, Tryd.ntmps8
  go_wp2_with fail
  refine (H.out ()).mono ?_
  rintro e w1 ⟨rfl, hb⟩
  go_wp2_with fail
  go_ret2
  exact ⟨rfl, hb⟩
theorem most_ok (hr : RoomsIn w A rs) (hw : WantsIn w A' ws) (hok : okR rs = true) (hn : ws.length ≤ 1024) (hT : TzAt w) :
    Calls Tryd.prog 8 #[.slice A rs.length c, .slice A' ws.length c'] w fun e w' => e = .returned (.tuple #[.int .i64 (leastZ rs (ws.map WV.fw)), .int .i64 0]) ∧ Below w.heap.size w w' := by
  have H := Lib.hid fun (_ : Unit) => build_ok A A' c c' rs ws hr.rd hr.wf hok hn hw.rd hw.all
  have HT := Lib.hid hT
  have HOK := Lib.hid hok
  clear hr hw hok hT
  go_enter Tryd.func8, Tryd.ntmps8
  go_wp2_with fail
  refine (H.out ()).mono ?_
  rintro e w1 ⟨gb, ba, bb, rfl, hg, hb⟩
  have HG := Lib.hid hg
  clear hg
  go_wp2_with fail
  refine (least_any rs _ HOK.out HG.out (HT.out.below hb)).mono ?_
  rintro e w2 ⟨rfl, hb2⟩
  go_wp2_with fail
  go_ret2
  exact ⟨rfl, hb.trans (hb2.mono hb.size)⟩

def sumTo (ws : List WV) (k : Nat) : Int := capZ (sumIf (fun _ => true) WV.n (ws.take k))
theorem sumTo_succ {ws : List WV} {k : Nat} (hk : k < ws.length) : sumTo ws (k + 1) = addZ (sumTo ws k) ws[k].n := by
  unfold sumTo
  rw [List.take_succ_eq_append_getElem hk, sumIf_snoc, addZ_cap _ (sumIf_nonneg _ _ _)]
  simp
def sumAll (ws : List WV) : Int := sumTo ws ws.length

theorem need_bad (n' : Nat) (hr : RoomsIn w A rs) (hok : okR rs = false) :
    Calls Tryd.prog 9 #[.slice A rs.length c, .slice A' n' c'] w fun e w' => e = .returned (.tuple #[.int .i64 0, .int .i64 1]) ∧ Below w.heap.size w w' := by
  have H := Lib.hid fun (_ : Unit) => most_bad (A' := A') (c := c) (c' := c') n' hr hok
  clear hr hok
  go_enter Tryd.func9, Tryd.ntmps9
  go_wp2_with fail
  refine (H.out ()).mono ?_
  rintro e w1 ⟨rfl, hb⟩
  go_wp2_with fail
  go_ret2
  exact ⟨rfl, hb⟩
set_option maxHeartbeats 1000000 in
theorem need_ok (hr : RoomsIn w A rs) (hw : WantsIn w A' ws) (hok : okR rs = true) (hn : ws.length ≤ 1024) (hT : TzAt w) :
    Calls Tryd.prog 9 #[.slice A rs.length c, .slice A' ws.length c'] w fun e w' => e = .returned (.tuple #[.int .i64 (subZ (sumAll ws) (leastZ rs (ws.map WV.fw))), .int .i64 0]) ∧ Below w.heap.size w w' := by
  have H := Lib.hid fun (_ : Unit) => most_ok (c := c) (c' := c') hr hw hok hn hT
  have HW := Lib.hid hw
  clear hr hw hok hT
  go_enter Tryd.func9, Tryd.ntmps9
  go_wp2_with fail
  refine (H.out ()).mono ?_
  rintro e w1 ⟨rfl, hb⟩
  go_wp2_with fail
  go_loopw [8, 22] (fun s i wr => ∃ k : Nat, k ≤ ws.length ∧ i = .int .i64 k ∧ s = .int .i64 (sumTo ws k) ∧ Below w.heap.size w wr) (fun _ i _ => ws.length - (intOf i).toNat)
  case atStart => exact ⟨0, Nat.zero_le _, rfl, rfl, hb⟩
  case round =>
    clear hb
    obtain ⟨k, hk, rfl, rfl, hb⟩ := hrel
    by_cases hkl : k < ws.length
    · obtain ⟨b, off, rfl, _, hbw, hrg⟩ := HW.out.rd.rangeAt (sz := 16) (by omega) (fun v hv => by simpa using (HW.out.all v hv).1.size) hkl
      have hrg1 : wr.rangeAt b (off + k * 16) ws[k].cs.toList := fun j v hj => (hb.cell (p := ⟨b, off + k * 16 + j, none⟩) hbw).trans (hrg j v hj)
      have HS := Lib.hid (sumTo_succ hkl)
      have hv := HW.out.all _ (List.getElem_mem hkl)
      clear hrg
      generalize ws[k] = v at *
      have hnum := hv.1.num
      have hsz := hv.1.size
      have hone := Lib.hid hv.1.one
      have hS1 := Lib.hid (show (Tryd.prog.info? 55).map (·.size) = some v.cs.toList.length by rw [Array.length_toList, hsz]; kernel_rfl)
      have hS2 := Lib.hid (show (Tryd.prog.info? 55).map (·.size) = some v.cs.size by rw [hsz]; kernel_rfl)
      have h16 := Lib.hid hsz
      clear hsz hv
      go_wp2_with (first | (refine wpList_load_mid rfl 55 (.tmp 24) rfl b (off + k * 16) rfl _ _ hrg1 Tryd.underlying55 rfl hS1.out ?_) | (refine wpList_store_new (by rfl) 55 (.tmp 10) (.tmp 25) rfl wr _ v.cs (by rfl) (by rfl) (by rfl) hS2.out (by rw [h16.out]; rfl) hone.out ?_) | (go_at_call 22; refine (add_any _ _ _).mono ?_; rintro e w' ⟨rfl, rfl⟩))
      go_roundw
      case rel => exact ⟨k + 1, by omega, by go_num, by rw [HS.out], hb.alloc hb.size _⟩
      case measure => simp [intOf]; omega
    · obtain rfl : k = ws.length := by omega
      go_wp2_with (go_at_call 23; refine (sub_any _ _ _).mono ?_; rintro e w' ⟨rfl, rfl⟩)
      go_ret2
      exact ⟨rfl, hb⟩
end
end Go.Proofs.YtpbghlobkdjpiaaDoor
