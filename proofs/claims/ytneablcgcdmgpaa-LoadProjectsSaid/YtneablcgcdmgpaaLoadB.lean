/-
  Loads: what one call adds, takes away, tells. Under: they stand in memory.
-/
import Derived.Test.YtneablcgcdmgpaaLoadA
namespace Go.Proofs.Ytneablcgcdmgpaa
open Go.ChangeShapes Go.WideShapes Go.ChangeAt Go.RowKit Go.Maps

/-- how one call changes a load -/
structure How (f : FuncId) (F : Int → Int → Int) : Prop where
  call : ∀ (a b : Int) (w : World), Calls Try.prog f #[.int .i64 a, .int .i64 b] w fun e w' => e = .returned (.int .i64 (F a b)) ∧ w = w'
  bd : ∀ a b, 0 ≤ F a b ∧ F a b ≤ 9007199254740991
def LD.how (F : Int → Int → Int) (x : LD) (i n : Int) : LD := if 0 ≤ i then ⟨setZ x.s i (F (getZ x.s i) n), x.o || isCap (nearZ n) || isCap (F (getZ x.s i) n)⟩ else ⟨x.s, x.o || isCap (nearZ n)⟩
theorem over_set {w : World} {g b m : Nat} {x : LD} (h : LoadsAt w g b m x) (q : Bool) : LoadsAt (w.setCell ⟨g, 1, none⟩ (.bool q)) g b m ⟨x.s, q⟩ ∧ Only (fun k => k = g) w (w.setCell ⟨g, 1, none⟩ (.bool q)) := by
  have hB2 := h.blk.set_ 1 (.bool q)
  have ho2 : Only (fun k => k = g) w (w.setCell ⟨g, 1, none⟩ (.bool q)) := (Only.refl (fun k => k = g) w).setCell (p := ⟨g, 1, none⟩) (fun _ => rfl) _
  obtain ⟨D, h1, h2⟩ := h.map
  exact ⟨⟨hB2, ⟨D, ownsMap_only h1 ho2 (fun e => h.ne e.symm), h2⟩, h.ne⟩, ho2⟩
theorem how_add : How 27 addZ := ⟨add_any, addZ_b⟩
theorem how_sub : How 31 subZ := ⟨sub_any, subZ_b⟩
set_option maxRecDepth 10000 in
set_option maxHeartbeats 4000000 in
theorem change_add {w : World} {g b m : Nat} {x : LD} (h : LoadsAt w g b m x) (hr : Ris x.s) (hp : Pos x.s) (i n : Int) (hi : (Lit.int .i64 i).wf = true) (hm : m < 1000000) :
    Calls Try.prog 26 #[.pointer (some ⟨g, 0, none⟩), .int .i64 i, .int .i64 n, .func (.func 27) #[] #[]] w fun e w' => e = .returned (.tuple #[]) ∧ LoadsAt w' g b (m + 1) (x.how addZ i n) ∧ Only (fun k => k = g ∨ k = b) w w' := by
  have hc0 := h.blk.cell 0
  simp at hc0
  have hc1 := h.blk.cell 1
  simp at hc1
  have hf1 := h.blk.frozen 1
  have HM := Lib.hid (made_any h)
  have HO := Lib.hid fun q => over_set h q
  have HG := Lib.hid h.ne
  have HFU := Lib.hid how_add
  have HR := Lib.hid hr
  have HP := Lib.hid hp
  clear h hr hp
  have hnb := nearZ_bd n
  have HN := Lib.hid fun (q : Bool) (hq : q = (x.o || isCap (nearZ n))) (hneg : i < 0) => (show LoadsAt (w.setCell ⟨g, 1, none⟩ (.bool q)) g b (m + 1) (x.how addZ i n) ∧ Only (fun k => k = g ∨ k = b) w (w.setCell ⟨g, 1, none⟩ (.bool q)) from by
    obtain ⟨h1, h2⟩ := HO.out q
    have e : x.how addZ i n = ⟨x.s, q⟩ := by
      unfold LD.how
      rw [if_neg (by omega), hq]
    rw [e]
    obtain ⟨D, h3, h4⟩ := h1.map
    exact ⟨⟨h1.blk, ⟨D, ownsMap_mono h3 (Nat.le_succ _), h4⟩, h1.ne⟩, h2.mono (fun _ _ h => .inl h)⟩)
  have HY := Lib.hid fun (q : Bool) (hq : q = (x.o || isCap (nearZ n))) (hneg : ¬ i < 0) (w2 : World) (hl2 : LoadsAt w2 g b (m + 1) ⟨setZ x.s i (addZ (getZ x.s i) n), q || isCap (addZ (getZ x.s i) n)⟩) (ho2 : Only (fun k => k = g ∨ k = b) (w.setCell ⟨g, 1, none⟩ (.bool q)) w2) => (show LoadsAt w2 g b (m + 1) (x.how addZ i n) ∧ Only (fun k => k = g ∨ k = b) w w2 from by
    have e : x.how addZ i n = ⟨setZ x.s i (addZ (getZ x.s i) n), q || isCap (addZ (getZ x.s i) n)⟩ := by
      unfold LD.how
      rw [if_pos (by omega), hq]
    rw [e]
    exact ⟨hl2, ((HO.out q).2.mono (T := fun k => k = g ∨ k = b) (fun _ _ h => .inl h)).trans ho2 (fun _ _ h => h)⟩)
  generalize x.how addZ i n = y at *
  obtain ⟨s, o⟩ := x
  simp only at *
  by_cases hi0 : i < 0
  · have HN := Lib.hid fun q hq => HN.out q hq hi0
    clear HY
    cases o with
    | true =>
      go_enter Try.func26, Try.ntmps26
      go_wp2_with (go_at_call 33; refine (HM.out).mono ?_; rintro e w' ⟨rfl, rfl⟩)
      refine bodyPost_end (results_none rfl _ _ _) rfl ?_
      exact ⟨rfl, HN.out true (by simp [isCap, capN])⟩
    | false =>
      by_cases hcap : nearZ n = 9007199254740991
      · have hcb : (nearZ n == 9007199254740991) = true := by simpa using hcap
        go_enter Try.func26, Try.ntmps26
        go_wp2_with (first | (go_at_call 33; refine (HM.out).mono ?_; rintro e w' ⟨rfl, rfl⟩) | (go_at_call 37; refine (near_any _ _).mono ?_; rintro e w' ⟨rfl, rfl⟩; rw [hcap]))
        refine bodyPost_end (results_none rfl _ _ _) rfl ?_
        exact ⟨rfl, HN.out true (by simp [isCap, capN, hcap])⟩
      · have hcb : (nearZ n == 9007199254740991) = false := by simpa using hcap
        go_enter Try.func26, Try.ntmps26
        go_wp2_with (first | (go_at_call 33; refine (HM.out).mono ?_; rintro e w' ⟨rfl, rfl⟩) | (go_at_call 37; refine (near_any _ _).mono ?_; rintro e w' ⟨rfl, rfl⟩))
        refine bodyPost_end (results_none rfl _ _ _) rfl ?_
        exact ⟨rfl, HN.out false (by simp [isCap, capN, hcap])⟩
  · clear HN
    cases o with
    | true =>
      go_enter Try.func26, Try.ntmps26
      obtain ⟨hl, hol⟩ := HO.out true
      obtain ⟨D, h1, h2⟩ := hl.map
      have HV := Lib.hid (h2.val i)
      clear h2
      have HL := Lib.hid hl
      have HOL := Lib.hid hol
      clear hl hol
      go_wp2_with (first | (go_at_call 33; refine (HM.out).mono ?_; rintro e w' ⟨rfl, rfl⟩) | (at_lookup; refine wpList_lookup_own_int _ rfl _ _ 65 rfl 3 3 .i64 law3 Try.underlying65 Try.underlying3 (zero3 _) b m D rfl h1 _ _ rfl (keyOf_int_mk Try.underlying3 hi) ?_; intro c hat hwc; obtain rfl : c = getZ s i := by (rw [HV.out] at hat; injection hat with hat; injection hat with _ hat; exact hat.symm)))
      refine ((HFU.out).call _ _ _).mono ?_
      rintro e w' ⟨rfl, rfl⟩
      clear h1
      go_wp2_with fail
      refine (set_any HL.out HR.out HP.out i _ hi (HFU.out.bd _ _).1 (HFU.out.bd _ _).2 hm).mono ?_
      rintro e w2 ⟨rfl, hl2, ho2⟩
      have HF := Lib.hid (HY.out true (by simp [isCap, capN]) (by omega) w2 hl2 ho2)
      clear hl2 ho2
      go_wp2_with fail
      refine bodyPost_end (results_none rfl _ _ _) rfl ?_
      exact ⟨rfl, HF.out⟩
    | false =>
      by_cases hcap : nearZ n = 9007199254740991
      · have hcb : (nearZ n == 9007199254740991) = true := by simpa using hcap
        go_enter Try.func26, Try.ntmps26
        obtain ⟨hl, hol⟩ := HO.out true
        obtain ⟨D, h1, h2⟩ := hl.map
        have HV := Lib.hid (h2.val i)
        clear h2
        have HL := Lib.hid hl
        have HOL := Lib.hid hol
        clear hl hol
        go_wp2_with (first | (first | (go_at_call 33; refine (HM.out).mono ?_; rintro e w' ⟨rfl, rfl⟩) | (go_at_call 37; refine (near_any _ _).mono ?_; rintro e w' ⟨rfl, rfl⟩; rw [hcap])) | (at_lookup; refine wpList_lookup_own_int _ rfl _ _ 65 rfl 3 3 .i64 law3 Try.underlying65 Try.underlying3 (zero3 _) b m D rfl h1 _ _ rfl (keyOf_int_mk Try.underlying3 hi) ?_; intro c hat hwc; obtain rfl : c = getZ s i := by (rw [HV.out] at hat; injection hat with hat; injection hat with _ hat; exact hat.symm)))
        refine ((HFU.out).call _ _ _).mono ?_
        rintro e w' ⟨rfl, rfl⟩
        clear h1
        go_wp2_with fail
        refine (set_any HL.out HR.out HP.out i _ hi (HFU.out.bd _ _).1 (HFU.out.bd _ _).2 hm).mono ?_
        rintro e w2 ⟨rfl, hl2, ho2⟩
        have HF := Lib.hid (HY.out true (by simp [isCap, capN, hcap]) (by omega) w2 hl2 ho2)
        clear hl2 ho2
        go_wp2_with fail
        refine bodyPost_end (results_none rfl _ _ _) rfl ?_
        exact ⟨rfl, HF.out⟩
      · have hcb : (nearZ n == 9007199254740991) = false := by simpa using hcap
        go_enter Try.func26, Try.ntmps26
        obtain ⟨hl, hol⟩ := HO.out false
        obtain ⟨D, h1, h2⟩ := hl.map
        have HV := Lib.hid (h2.val i)
        clear h2
        have HL := Lib.hid hl
        have HOL := Lib.hid hol
        clear hl hol
        go_wp2_with (first | (first | (go_at_call 33; refine (HM.out).mono ?_; rintro e w' ⟨rfl, rfl⟩) | (go_at_call 37; refine (near_any _ _).mono ?_; rintro e w' ⟨rfl, rfl⟩)) | (at_lookup; refine wpList_lookup_own_int _ rfl _ _ 65 rfl 3 3 .i64 law3 Try.underlying65 Try.underlying3 (zero3 _) b m D rfl h1 _ _ rfl (keyOf_int_mk Try.underlying3 hi) ?_; intro c hat hwc; obtain rfl : c = getZ s i := by (rw [HV.out] at hat; injection hat with hat; injection hat with _ hat; exact hat.symm)))
        refine ((HFU.out).call _ _ _).mono ?_
        rintro e w' ⟨rfl, rfl⟩
        clear h1
        go_wp2_with fail
        refine (set_any HL.out HR.out HP.out i _ hi (HFU.out.bd _ _).1 (HFU.out.bd _ _).2 hm).mono ?_
        rintro e w2 ⟨rfl, hl2, ho2⟩
        have HF := Lib.hid (HY.out false (by simp [isCap, capN, hcap]) (by omega) w2 hl2 ho2)
        clear hl2 ho2
        go_wp2_with fail
        refine bodyPost_end (results_none rfl _ _ _) rfl ?_
        exact ⟨rfl, HF.out⟩
set_option maxRecDepth 10000 in
set_option maxHeartbeats 4000000 in
theorem change_sub {w : World} {g b m : Nat} {x : LD} (h : LoadsAt w g b m x) (hr : Ris x.s) (hp : Pos x.s) (i n : Int) (hi : (Lit.int .i64 i).wf = true) (hm : m < 1000000) :
    Calls Try.prog 26 #[.pointer (some ⟨g, 0, none⟩), .int .i64 i, .int .i64 n, .func (.func 31) #[] #[]] w fun e w' => e = .returned (.tuple #[]) ∧ LoadsAt w' g b (m + 1) (x.how subZ i n) ∧ Only (fun k => k = g ∨ k = b) w w' := by
  have hc0 := h.blk.cell 0
  simp at hc0
  have hc1 := h.blk.cell 1
  simp at hc1
  have hf1 := h.blk.frozen 1
  have HM := Lib.hid (made_any h)
  have HO := Lib.hid fun q => over_set h q
  have HG := Lib.hid h.ne
  have HFU := Lib.hid how_sub
  have HR := Lib.hid hr
  have HP := Lib.hid hp
  clear h hr hp
  have hnb := nearZ_bd n
  have HN := Lib.hid fun (q : Bool) (hq : q = (x.o || isCap (nearZ n))) (hneg : i < 0) => (show LoadsAt (w.setCell ⟨g, 1, none⟩ (.bool q)) g b (m + 1) (x.how subZ i n) ∧ Only (fun k => k = g ∨ k = b) w (w.setCell ⟨g, 1, none⟩ (.bool q)) from by
    obtain ⟨h1, h2⟩ := HO.out q
    have e : x.how subZ i n = ⟨x.s, q⟩ := by
      unfold LD.how
      rw [if_neg (by omega), hq]
    rw [e]
    obtain ⟨D, h3, h4⟩ := h1.map
    exact ⟨⟨h1.blk, ⟨D, ownsMap_mono h3 (Nat.le_succ _), h4⟩, h1.ne⟩, h2.mono (fun _ _ h => .inl h)⟩)
  have HY := Lib.hid fun (q : Bool) (hq : q = (x.o || isCap (nearZ n))) (hneg : ¬ i < 0) (w2 : World) (hl2 : LoadsAt w2 g b (m + 1) ⟨setZ x.s i (subZ (getZ x.s i) n), q || isCap (subZ (getZ x.s i) n)⟩) (ho2 : Only (fun k => k = g ∨ k = b) (w.setCell ⟨g, 1, none⟩ (.bool q)) w2) => (show LoadsAt w2 g b (m + 1) (x.how subZ i n) ∧ Only (fun k => k = g ∨ k = b) w w2 from by
    have e : x.how subZ i n = ⟨setZ x.s i (subZ (getZ x.s i) n), q || isCap (subZ (getZ x.s i) n)⟩ := by
      unfold LD.how
      rw [if_pos (by omega), hq]
    rw [e]
    exact ⟨hl2, ((HO.out q).2.mono (T := fun k => k = g ∨ k = b) (fun _ _ h => .inl h)).trans ho2 (fun _ _ h => h)⟩)
  generalize x.how subZ i n = y at *
  obtain ⟨s, o⟩ := x
  simp only at *
  by_cases hi0 : i < 0
  · have HN := Lib.hid fun q hq => HN.out q hq hi0
    clear HY
    cases o with
    | true =>
      go_enter Try.func26, Try.ntmps26
      go_wp2_with (go_at_call 33; refine (HM.out).mono ?_; rintro e w' ⟨rfl, rfl⟩)
      refine bodyPost_end (results_none rfl _ _ _) rfl ?_
      exact ⟨rfl, HN.out true (by simp [isCap, capN])⟩
    | false =>
      by_cases hcap : nearZ n = 9007199254740991
      · have hcb : (nearZ n == 9007199254740991) = true := by simpa using hcap
        go_enter Try.func26, Try.ntmps26
        go_wp2_with (first | (go_at_call 33; refine (HM.out).mono ?_; rintro e w' ⟨rfl, rfl⟩) | (go_at_call 37; refine (near_any _ _).mono ?_; rintro e w' ⟨rfl, rfl⟩; rw [hcap]))
        refine bodyPost_end (results_none rfl _ _ _) rfl ?_
        exact ⟨rfl, HN.out true (by simp [isCap, capN, hcap])⟩
      · have hcb : (nearZ n == 9007199254740991) = false := by simpa using hcap
        go_enter Try.func26, Try.ntmps26
        go_wp2_with (first | (go_at_call 33; refine (HM.out).mono ?_; rintro e w' ⟨rfl, rfl⟩) | (go_at_call 37; refine (near_any _ _).mono ?_; rintro e w' ⟨rfl, rfl⟩))
        refine bodyPost_end (results_none rfl _ _ _) rfl ?_
        exact ⟨rfl, HN.out false (by simp [isCap, capN, hcap])⟩
  · clear HN
    cases o with
    | true =>
      go_enter Try.func26, Try.ntmps26
      obtain ⟨hl, hol⟩ := HO.out true
      obtain ⟨D, h1, h2⟩ := hl.map
      have HV := Lib.hid (h2.val i)
      clear h2
      have HL := Lib.hid hl
      have HOL := Lib.hid hol
      clear hl hol
      go_wp2_with (first | (go_at_call 33; refine (HM.out).mono ?_; rintro e w' ⟨rfl, rfl⟩) | (at_lookup; refine wpList_lookup_own_int _ rfl _ _ 65 rfl 3 3 .i64 law3 Try.underlying65 Try.underlying3 (zero3 _) b m D rfl h1 _ _ rfl (keyOf_int_mk Try.underlying3 hi) ?_; intro c hat hwc; obtain rfl : c = getZ s i := by (rw [HV.out] at hat; injection hat with hat; injection hat with _ hat; exact hat.symm)))
      refine ((HFU.out).call _ _ _).mono ?_
      rintro e w' ⟨rfl, rfl⟩
      clear h1
      go_wp2_with fail
      refine (set_any HL.out HR.out HP.out i _ hi (HFU.out.bd _ _).1 (HFU.out.bd _ _).2 hm).mono ?_
      rintro e w2 ⟨rfl, hl2, ho2⟩
      have HF := Lib.hid (HY.out true (by simp [isCap, capN]) (by omega) w2 hl2 ho2)
      clear hl2 ho2
      go_wp2_with fail
      refine bodyPost_end (results_none rfl _ _ _) rfl ?_
      exact ⟨rfl, HF.out⟩
    | false =>
      by_cases hcap : nearZ n = 9007199254740991
      · have hcb : (nearZ n == 9007199254740991) = true := by simpa using hcap
        go_enter Try.func26, Try.ntmps26
        obtain ⟨hl, hol⟩ := HO.out true
        obtain ⟨D, h1, h2⟩ := hl.map
        have HV := Lib.hid (h2.val i)
        clear h2
        have HL := Lib.hid hl
        have HOL := Lib.hid hol
        clear hl hol
        go_wp2_with (first | (first | (go_at_call 33; refine (HM.out).mono ?_; rintro e w' ⟨rfl, rfl⟩) | (go_at_call 37; refine (near_any _ _).mono ?_; rintro e w' ⟨rfl, rfl⟩; rw [hcap])) | (at_lookup; refine wpList_lookup_own_int _ rfl _ _ 65 rfl 3 3 .i64 law3 Try.underlying65 Try.underlying3 (zero3 _) b m D rfl h1 _ _ rfl (keyOf_int_mk Try.underlying3 hi) ?_; intro c hat hwc; obtain rfl : c = getZ s i := by (rw [HV.out] at hat; injection hat with hat; injection hat with _ hat; exact hat.symm)))
        refine ((HFU.out).call _ _ _).mono ?_
        rintro e w' ⟨rfl, rfl⟩
        clear h1
        go_wp2_with fail
        refine (set_any HL.out HR.out HP.out i _ hi (HFU.out.bd _ _).1 (HFU.out.bd _ _).2 hm).mono ?_
        rintro e w2 ⟨rfl, hl2, ho2⟩
        have HF := Lib.hid (HY.out true (by simp [isCap, capN, hcap]) (by omega) w2 hl2 ho2)
        clear hl2 ho2
        go_wp2_with fail
        refine bodyPost_end (results_none rfl _ _ _) rfl ?_
        exact ⟨rfl, HF.out⟩
      · have hcb : (nearZ n == 9007199254740991) = false := by simpa using hcap
        go_enter Try.func26, Try.ntmps26
        obtain ⟨hl, hol⟩ := HO.out false
        obtain ⟨D, h1, h2⟩ := hl.map
        have HV := Lib.hid (h2.val i)
        clear h2
        have HL := Lib.hid hl
        have HOL := Lib.hid hol
        clear hl hol
        go_wp2_with (first | (first | (go_at_call 33; refine (HM.out).mono ?_; rintro e w' ⟨rfl, rfl⟩) | (go_at_call 37; refine (near_any _ _).mono ?_; rintro e w' ⟨rfl, rfl⟩)) | (at_lookup; refine wpList_lookup_own_int _ rfl _ _ 65 rfl 3 3 .i64 law3 Try.underlying65 Try.underlying3 (zero3 _) b m D rfl h1 _ _ rfl (keyOf_int_mk Try.underlying3 hi) ?_; intro c hat hwc; obtain rfl : c = getZ s i := by (rw [HV.out] at hat; injection hat with hat; injection hat with _ hat; exact hat.symm)))
        refine ((HFU.out).call _ _ _).mono ?_
        rintro e w' ⟨rfl, rfl⟩
        clear h1
        go_wp2_with fail
        refine (set_any HL.out HR.out HP.out i _ hi (HFU.out.bd _ _).1 (HFU.out.bd _ _).2 hm).mono ?_
        rintro e w2 ⟨rfl, hl2, ho2⟩
        have HF := Lib.hid (HY.out false (by simp [isCap, capN, hcap]) (by omega) w2 hl2 ho2)
        clear hl2 ho2
        go_wp2_with fail
        refine bodyPost_end (results_none rfl _ _ _) rfl ?_
        exact ⟨rfl, HF.out⟩
theorem how_add_eq (x : LD) (i n : Int) : x.how addZ i n = x.add i n := by
  unfold LD.how LD.add
  by_cases hi : 0 ≤ i <;> simp [hi]
theorem how_sub_eq {x : LD} (h : x.ok) (i n : Int) : x.how subZ i n = x.sub i n := by
  unfold LD.how LD.sub
  by_cases hi : 0 ≤ i
  · have e := LD.sub_cap h i n
    simp only [hi, if_true]
    congr 1
    rw [Bool.or_right_comm, e]
  · simp [hi]
set_option maxRecDepth 10000 in
theorem ladd_any {w : World} {g b m : Nat} {x : LD} (h : LoadsAt w g b m x) (hx : x.ok) (i n : Int) (hi : (Lit.int .i64 i).wf = true) (hm : m < 1000000) :
    Calls Try.prog 10 #[.pointer (some ⟨g, 0, none⟩), .int .i64 i, .int .i64 n] w fun e w' => e = .returned (.tuple #[]) ∧ LoadsAt w' g b (m + 1) (x.add i n) ∧ Only (fun k => k = g ∨ k = b) w w' := by
  have HC := Lib.hid (change_add h hx.ris hx.pos i n hi hm)
  rw [how_add_eq] at HC
  clear h
  go_enter Try.func10, Try.ntmps10
  go_wp2_with fail
  refine (HC.out).mono ?_
  rintro e w' ⟨rfl, h1, h2⟩
  have H1 := Lib.hid h1
  clear h1
  go_wp2_with fail
  refine bodyPost_end (results_none rfl _ _ _) rfl ?_
  exact ⟨rfl, H1.out, h2⟩
set_option maxRecDepth 10000 in
theorem lsub_any {w : World} {g b m : Nat} {x : LD} (h : LoadsAt w g b m x) (hx : x.ok) (i n : Int) (hi : (Lit.int .i64 i).wf = true) (hm : m < 1000000) :
    Calls Try.prog 12 #[.pointer (some ⟨g, 0, none⟩), .int .i64 i, .int .i64 n] w fun e w' => e = .returned (.tuple #[]) ∧ LoadsAt w' g b (m + 1) (x.sub i n) ∧ Only (fun k => k = g ∨ k = b) w w' := by
  have HC := Lib.hid (change_sub h hx.ris hx.pos i n hi hm)
  rw [how_sub_eq hx] at HC
  clear h
  go_enter Try.func12, Try.ntmps12
  go_wp2_with fail
  refine (HC.out).mono ?_
  rintro e w' ⟨rfl, h1, h2⟩
  have H1 := Lib.hid h1
  clear h1
  go_wp2_with fail
  refine bodyPost_end (results_none rfl _ _ _) rfl ?_
  exact ⟨rfl, H1.out, h2⟩
set_option maxRecDepth 10000 in
theorem of_any {w : World} {g b m : Nat} {x : LD} (h : LoadsAt w g b m x) (i : Int) (hi : (Lit.int .i64 i).wf = true) :
    Calls Try.prog 17 #[.pointer (some ⟨g, 0, none⟩), .int .i64 i] w fun e w' => e = .returned (.int .i64 (getZ x.s i)) ∧ w = w' := by
  obtain ⟨D, h1, h2⟩ := h.map
  have HV := Lib.hid (h2.val i)
  have hc0 := h.blk.cell 0
  simp at hc0
  have HM := Lib.hid (made_any h)
  clear h h2
  go_enter Try.func17, Try.ntmps17
  go_wp2_with (first | (go_at_call 33; refine (HM.out).mono ?_; rintro e w' ⟨rfl, rfl⟩) | (at_lookup; refine wpList_lookup_own_int _ rfl _ _ 65 rfl 3 3 .i64 law3 Try.underlying65 Try.underlying3 (zero3 _) b m D rfl h1 _ _ rfl (keyOf_int_mk Try.underlying3 hi) ?_; intro c hat hwc; obtain rfl : c = getZ x.s i := by (rw [HV.out] at hat; injection hat with hat; injection hat with _ hat; exact hat.symm)))
  go_ret
  exact ⟨rfl, rfl⟩
set_option maxRecDepth 10000 in
theorem over_any {w : World} {g b m : Nat} {x : LD} (h : LoadsAt w g b m x) :
    Calls Try.prog 16 #[.pointer (some ⟨g, 0, none⟩)] w fun e w' => e = .returned (.bool x.o) ∧ w = w' := by
  have hc1 := h.blk.cell 1
  simp at hc1
  have HM := Lib.hid (made_any h)
  clear h
  go_enter Try.func16, Try.ntmps16
  go_wp2_with (go_at_call 33; refine (HM.out).mono ?_; rintro e w' ⟨rfl, rfl⟩)
  go_ret
  exact ⟨rfl, rfl⟩
/-- does more fit? -/
def LD.fits (x : LD) (i n limit : Int) : Bool := decide (0 ≤ i) && !x.o && decide (addZ (getZ x.s i) n ≤ limit)
set_option maxRecDepth 10000 in
theorem fits_any {w : World} {g b m : Nat} {x : LD} (h : LoadsAt w g b m x) (i n limit : Int) (hi : (Lit.int .i64 i).wf = true) :
    Calls Try.prog 19 #[.pointer (some ⟨g, 0, none⟩), .int .i64 i, .int .i64 n, .int .i64 limit] w fun e w' => e = .returned (.bool (x.fits i n limit)) ∧ w = w' := by
  have HF := Lib.hid fun (_ : Unit) => (show x.fits i n limit = (decide (0 ≤ i) && !x.o && decide (addZ (getZ x.s i) n ≤ limit)) from rfl)
  generalize x.fits i n limit = r at *
  have HO := Lib.hid (of_any h i hi)
  have HV := Lib.hid (over_any h)
  obtain ⟨s, o⟩ := x
  simp only at *
  clear h
  by_cases hi0 : 0 ≤ i
  · cases o with
    | true =>
      have HE := Lib.hid (show r = false by rw [HF.out ()]; simp)
      go_enter Try.func19, Try.ntmps19
      go_wp2_with (go_at_call 16; refine (HV.out).mono ?_; rintro e w' ⟨rfl, rfl⟩)
      go_ret
      exact ⟨by rw [HE.out]; rfl, rfl⟩
    | false =>
      have HE := Lib.hid (show r = decide (addZ (getZ s i) n ≤ limit) by rw [HF.out ()]; simp [hi0])
      go_enter Try.func19, Try.ntmps19
      go_wp2_with (first | (go_at_call 16; refine (HV.out).mono ?_; rintro e w' ⟨rfl, rfl⟩) | (go_at_call 17; refine (HO.out).mono ?_; rintro e w' ⟨rfl, rfl⟩) | (go_at_call 27; refine (add_any _ _ _).mono ?_; rintro e w' ⟨rfl, rfl⟩))
      go_ret
      exact ⟨by rw [HE.out]; rfl, rfl⟩
  · have HE := Lib.hid (show r = false by rw [HF.out ()]; simp [hi0])
    go_enter Try.func19, Try.ntmps19
    go_wp2_with fail
    go_ret
    exact ⟨by rw [HE.out]; rfl, rfl⟩
end Go.Proofs.Ytneablcgcdmgpaa
