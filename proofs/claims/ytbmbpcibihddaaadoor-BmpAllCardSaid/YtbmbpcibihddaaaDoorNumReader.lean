/-
  Readers of bytes: the program's and the document's, one contract each for what they do. No condition but that the bytes read as data.
-/
import Derived.Test.YtbmbpcibihddaaaDoorNumGet
import Derived.Test.YtbmbpcibihddaaaDoorNumRPut
import Derived.BigQuiet
import Derived.Lib.SliceRun
namespace Go.Proofs.YtbmbpcibihddaaaDoor
open Go.ChangeShapes Go.WideShapes Go.ChangeAt Go.RowKit

set_option maxRecDepth 100000 in
set_option maxHeartbeats 2000000 in
theorem clone_u8 (A : Option Addr) (c : Nat) (l : List UInt8) (F : Nat → Prop) (w : World) (hl : l.length ≤ 140737488355328) (hr : Reads w F A (l.map vb)) :
    Calls Tryd.prog 61 #[.slice A l.length c] w fun e w' => ∃ v, e = .returned v ∧ w'.ownsRow w.heap.size 5 1 v l.length (l.map vb) ∧ Below w.heap.size w w' := by
  obtain ⟨i0, hi, hz0, hz1, hz2⟩ := info_parts infoU8
  have q22 : ∀ (w : World) (a : Option Addr) (n c n' c' : Nat), (binOp .eql 25 (.slice a n c) (.slice none n' c')).run Tryd.prog w = .ok (.bool a.isNone) w := fun w a n c n' c' => Lib.run_eql_slice_nil w _ _ a n c n' c' Tryd.underlying25
  rcases A with _ | ad
  · have hl0 : l = [] := by
      rcases hr with h | ⟨b, off, h, _⟩
      · simpa using h
      · cases h
    subst hl0
    go_enter Tryd.func61, Tryd.ntmps61
    go_wp2
    go_ret
    exact ⟨_, rfl, own_nil _ _ _ _, Below.refl _ _⟩
  · go_enter Tryd.func61, Tryd.ntmps61
    go_wp2_with (refine wpList_append_rd _ rfl (.tmp 5) (.tmp 6) 25 rfl w.heap.size 5 i0 (.int .u8 0) 1 1 Tryd.underlying25 hi hz0 hz1 hz2 rfl (by omega) _ 0 [] (by rfl) (own_empty _ _ _ _ _ (Nat.le_refl _) (heap_alloc_new w _)) F (some ad) l.length c (l.map vb) (by rfl) (by simp) (hr.alloc _) (vb_one l) (by unfold maxLen; omega) (by omega) (by simp) ?_)
    intro v w1 hown hg _
    have hb : Below w.heap.size w w1 := ((Below.refl _ _).alloc (Nat.le_refl _) _).grown hg (by simp) (fun k hk => by simp [Value.ownBlock] at hk; omega)
    have hown : w1.ownsRow w.heap.size 5 1 v l.length (l.map vb) := by simpa using hown
    go_wp2_with fail
    go_ret
    exact ⟨v, rfl, hown, hb⟩

/-- a reader in memory: what is left, whether it is bad; 'F' tells where its bytes lie -/
structure RD (W : World) (F : Nat → Prop) (T : TypeId) (rb : Nat) (bs : List UInt8) (bad : Bool) : Prop where
  ex : ∃ A c, Blk W rb T #[.slice A bs.length c, .bool bad] ∧ bs.length ≤ c ∧ c ≤ maxLen ∧ (A = none → c = 0) ∧ Reads W F A (bs.map vb)
  ne : ¬ F rb
  lt : ∀ k, F k → k < W.heap.size
section
variable {W W' : World} {F G : Nat → Prop} {T : TypeId} {rb : Nat} {bs : List UInt8} {bad : Bool}
theorem RD.only {S : Nat → Prop} (h : RD W F T rb bs bad) (ho : Only S W W') (h1 : ¬ S rb) (h2 : ∀ k, F k → ¬ S k) : RD W' F T rb bs bad := by
  obtain ⟨A, c, hb, hl, hc, hn, hr⟩ := h.ex
  exact ⟨⟨A, c, hb.only ho h1, hl, hc, hn, hr.only ho (fun k _ hf => h2 k hf)⟩, h.ne, fun k hk => Nat.lt_of_lt_of_le (h.lt k hk) ho.size⟩
theorem RD.below (h : RD W F T rb bs bad) (hb : Below W.heap.size W W') : RD W' F T rb bs bad := h.only (S := fun _ => False) (Only.of_below hb) (fun h => h) (fun _ _ h => h)
theorem RD.blt (h : RD W F T rb bs bad) : rb < W.heap.size := by
  obtain ⟨A, c, hb, _⟩ := h.ex
  exact hb.lt
end

set_option maxRecDepth 100000 in
theorem from_any (A : Option Addr) (c : Nat) (l : List UInt8) (F : Nat → Prop) (w : World) (hl : l.length ≤ 140737488355328) (hr : Reads w F A (l.map vb)) :
    Calls Tryd.prog 34 #[.slice A l.length c] w fun e w' => ∃ (g : Nat) (G : Nat → Prop), e = .returned (.pointer (some ⟨g, 0, none⟩)) ∧ RD w' G 99 g l false ∧ w.heap.size ≤ g ∧ (∀ k, G k → w.heap.size ≤ k) ∧ Below w.heap.size w w' := by
  go_enter Tryd.func34, Tryd.ntmps34
  go_wp2_with fail
  refine (clone_u8 A c l F _ hl hr).mono ?_
  rintro e w1 ⟨v, rfl, hown, hb⟩
  obtain ⟨A1, c1, hv, hlc, hcm, hn, hrd⟩ := own_reads hown
  subst hv
  have hs := hb.size
  go_wp2_with fail
  go_ret
  refine ⟨w1.heap.size, (fun k => w.heap.size ≤ k ∧ k < w1.heap.size), rfl, ⟨⟨A1, c1, Blk.new _ _ _, by simpa using hlc, hcm, hn, ?_⟩, by simp, fun k hk => by simp; omega⟩, hs, fun k hk => hk.1, hb.alloc hs _⟩
  exact (hrd.mono (fun k hk h => ⟨h.1, hk⟩)).alloc _

/-- does a reader give so many bytes? -/
def rdOk (n : Int) (bs : List UInt8) (bad : Bool) : Bool := !bad && decide (0 ≤ n) && decide (n ≤ bs.length)

theorem only_rb {W W' : World} {rb : Nat} {u : Value} {k : Nat} (h : W' = W.setCell ⟨rb, k, none⟩ u) : Only (· = rb) W W' := by
  subst h
  exact (Only.refl (· = rb) W).setCell (p := ⟨rb, k, none⟩) (fun _ => rfl) _

section
variable {W : World} {F : Nat → Prop} {rb : Nat} {bs : List UInt8} {bad : Bool}
theorem bytes_no (h : RD W F 99 rb bs bad) (n : Int) (hn : rdOk n bs bad = false) :
    Calls Tryd.prog 63 #[.pointer (some ⟨rb, 0, none⟩), .int .i64 n] W fun e w' => e = .returned (.slice none 0 0) ∧ RD w' F 99 rb bs true ∧ Only (· = rb) W w' := by
  obtain ⟨A, c, hb, hlc, hcm, hnn, hr⟩ := h.ex
  have hc0 := hb.cell 0
  have hc1 := hb.cell 1
  have hf1 := hb.frozen 1
  simp at hc0 hc1
  have hb2 := hb.set_ 1 (.bool true)
  simp at hb2
  have ho := only_rb (W := W) (rb := rb) (k := 1) (u := .bool true) rfl
  have hrd : RD (W.setCell ⟨rb, 1, none⟩ (.bool true)) F 99 rb bs true := ⟨⟨A, c, hb2, hlc, hcm, hnn, hr.only ho (fun k _ hk e => h.ne (e ▸ hk))⟩, h.ne, fun k hk => Nat.lt_of_lt_of_le (h.lt k hk) ho.size⟩
  have HR := Lib.hid hrd
  clear hrd hb2 hb h hr
  cases bad
  case true =>
    clear hn
    go_enter Tryd.func63, Tryd.ntmps63
    go_wp2_with fail
    go_ret
    exact ⟨rfl, HR.out, ho⟩
  by_cases h0 : n < 0
  case pos =>
    clear hn
    go_enter Tryd.func63, Tryd.ntmps63
    go_wp2_with fail
    go_ret
    exact ⟨rfl, HR.out, ho⟩
  have h1 : (bs.length : Int) < n := by
    simp [rdOk] at hn
    omega
  clear hn
  go_enter Tryd.func63, Tryd.ntmps63
  go_wp2_with fail
  go_ret
  exact ⟨rfl, HR.out, ho⟩

set_option maxHeartbeats 1000000 in
theorem bytes_ok (h : RD W F 99 rb bs false) (m : Nat) (hm : m ≤ bs.length) (hl : bs.length ≤ 140737488355328) :
    Calls Tryd.prog 63 #[.pointer (some ⟨rb, 0, none⟩), .int .i64 m] W fun e w' => ∃ v, e = .returned v ∧ w'.ownsRow W.heap.size 5 1 v m ((bs.take m).map vb) ∧ RD w' F 99 rb (bs.drop m) false ∧ Only (· = rb) W w' := by
  obtain ⟨A, c, hb, hlc, hcm, hnn, hr⟩ := h.ex
  have hsz : (Tryd.prog.info? 5).map (·.size) = some 1 := by kernel_rfl
  have hc0 := hb.cell 0
  have hc1 := hb.cell 1
  simp at hc0 hc1
  have h0 : ¬ (m : Int) < 0 := by omega
  have h1 : ¬ (bs.length : Int) < (m : Int) := by omega
  have hrT : Reads W F (cutA A c 0) ((bs.take m).map vb) := by
    have := (hr.cut (c := c) (by simpa using hlc) 0).take m
    rw [List.drop_zero, ← List.map_take] at this
    exact this
  have HB := Lib.hid hb
  have hblt := hb.lt
  clear hb
  go_enter Tryd.func63, Tryd.ntmps63
  go_wp2_with (refine wpList_cut_to (by rfl) 25 5 (.tmp 31) (.tmp 32) rfl Tryd.underlying25 hsz A bs.length c m (m : Int) (by rfl) (by rfl) rfl (by omega) ?_)
  have hlT : (bs.take m).length = m := by simp; omega
  have hcl := clone_u8 (cutA A c 0) c (bs.take m) F W (by omega) hrT
  rw [hlT] at hcl
  refine hcl.mono ?_
  rintro e w1 ⟨v, rfl, hown, hbel⟩
  obtain ⟨A1, c1, hv, -⟩ := own_reads hown
  subst hv
  have hb1 := HB.out.below hbel hblt
  have hd0 := hb1.cell 0
  have hf0 := hb1.frozen 0
  simp at hd0
  have hr1 := hr.below hbel (fun k _ hk => h.lt k hk)
  have hb2 := hb1.set_ 0 (.slice (cutA A c m) (bs.length - m) (c - m))
  simp at hb2
  have ho : Only (· = rb) W (w1.setCell ⟨rb, 0, none⟩ (.slice (cutA A c m) (bs.length - m) (c - m))) := (Only.of_below (S := (· = rb)) hbel).setCell (p := ⟨rb, 0, none⟩) (fun _ => rfl) _
  have hown2 := own_only hown (only_rb (W := w1) (rb := rb) (k := 0) (u := .slice (cutA A c m) (bs.length - m) (c - m)) rfl) (fun k hk e => by have := (hown.lt k hk).1; omega)
  have hrD : Reads (w1.setCell ⟨rb, 0, none⟩ (.slice (cutA A c m) (bs.length - m) (c - m))) F (cutA A c m) ((bs.drop m).map vb) := by
    have := (hr1.cut (c := c) (by simpa using hlc) m).only (only_rb (W := w1) (rb := rb) (k := 0) (u := .slice (cutA A c m) (bs.length - m) (c - m)) rfl) (fun k _ hk e => h.ne (e ▸ hk))
    rw [← List.map_drop] at this
    exact this
  have hrd : RD (w1.setCell ⟨rb, 0, none⟩ (.slice (cutA A c m) (bs.length - m) (c - m))) F 99 rb (bs.drop m) false :=
    ⟨⟨cutA A c m, c - m, by rw [List.length_drop]; exact hb2, by simp; omega, by omega, cutA_none hnn (by omega), hrD⟩, h.ne, fun k hk => Nat.lt_of_lt_of_le (h.lt k hk) ho.size⟩
  have HR := Lib.hid hrd
  have HO := Lib.hid hown2
  clear hb1 hb2 hown hown2 hrd hrD hr1 hrT hc0 hc1 hr
  go_wp2_with (refine wpList_cut_from (by rfl) 25 5 (.tmp 39) (.tmp 40) rfl Tryd.underlying25 hsz A bs.length c m (m : Int) (by rfl) (by rfl) rfl (by omega) ?_)
  go_ret
  exact ⟨_, rfl, HO.out, HR.out, ho⟩
theorem rbytes_no (h : RD W F 112 rb bs bad) (n : Int) (hn : rdOk n bs bad = false) :
    Calls Tryd.prog 74 #[.pointer (some ⟨rb, 0, none⟩), .int .i64 n] W fun e w' => e = .returned (.slice none 0 0) ∧ RD w' F 112 rb bs true ∧ Only (· = rb) W w' := by
  obtain ⟨A, c, hb, hlc, hcm, hnn, hr⟩ := h.ex
  have hc0 := hb.cell 0
  have hc1 := hb.cell 1
  have hf1 := hb.frozen 1
  simp at hc0 hc1
  have hb2 := hb.set_ 1 (.bool true)
  simp at hb2
  have ho := only_rb (W := W) (rb := rb) (k := 1) (u := .bool true) rfl
  have hrd : RD (W.setCell ⟨rb, 1, none⟩ (.bool true)) F 112 rb bs true := ⟨⟨A, c, hb2, hlc, hcm, hnn, hr.only ho (fun k _ hk e => h.ne (e ▸ hk))⟩, h.ne, fun k hk => Nat.lt_of_lt_of_le (h.lt k hk) ho.size⟩
  have HR := Lib.hid hrd
  clear hrd hb2 hb h hr
  cases bad
  case true =>
    clear hn
    go_enter Tryd.func74, Tryd.ntmps74
    go_wp2_with fail
    go_ret
    exact ⟨rfl, HR.out, ho⟩
  by_cases h0 : n < 0
  case pos =>
    clear hn
    go_enter Tryd.func74, Tryd.ntmps74
    go_wp2_with fail
    go_ret
    exact ⟨rfl, HR.out, ho⟩
  have h1 : (bs.length : Int) < n := by
    simp [rdOk] at hn
    omega
  clear hn
  go_enter Tryd.func74, Tryd.ntmps74
  go_wp2_with fail
  go_ret
  exact ⟨rfl, HR.out, ho⟩

set_option maxHeartbeats 1000000 in
theorem rbytes_ok (h : RD W F 112 rb bs false) (m : Nat) (hm : m ≤ bs.length) (hl : bs.length ≤ 140737488355328) :
    Calls Tryd.prog 74 #[.pointer (some ⟨rb, 0, none⟩), .int .i64 m] W fun e w' => ∃ v, e = .returned v ∧ w'.ownsRow W.heap.size 5 1 v m ((bs.take m).map vb) ∧ RD w' F 112 rb (bs.drop m) false ∧ Only (· = rb) W w' := by
  obtain ⟨A, c, hb, hlc, hcm, hnn, hr⟩ := h.ex
  have hsz : (Tryd.prog.info? 5).map (·.size) = some 1 := by kernel_rfl
  have hc0 := hb.cell 0
  have hc1 := hb.cell 1
  simp at hc0 hc1
  obtain ⟨i0, hi, hz0, hz1, hz2⟩ := info_parts infoU8
  have hcA : (W.alloc (.cells #[] 5)).cell? ⟨rb, 0, none⟩ = some (.slice A bs.length c) := by have := (hb.alloc (.cells #[] 5)).cell 0; simpa using this
  have h0 : ¬ (m : Int) < 0 := by omega
  have h1 : ¬ (bs.length : Int) < (m : Int) := by omega
  have hrT : Reads W F (cutA A c 0) ((bs.take m).map vb) := by
    have := (hr.cut (c := c) (by simpa using hlc) 0).take m
    rw [List.drop_zero, ← List.map_take] at this
    exact this
  have HB := Lib.hid hb
  have hblt := hb.lt
  clear hb
  go_enter Tryd.func74, Tryd.ntmps74
  go_wp2_with (first | (refine wpList_cut_to (by rfl) 25 5 (.tmp 30) (.tmp 31) rfl Tryd.underlying25 hsz A bs.length c m (m : Int) (by rfl) (by rfl) rfl (by omega) ?_) | (refine wpList_append_rd _ rfl (.tmp 26) (.tmp 32) 25 rfl W.heap.size 5 i0 (.int .u8 0) 1 1 Tryd.underlying25 hi hz0 hz1 hz2 rfl (by omega) _ 0 [] (by rfl) (own_empty _ _ _ _ _ (Nat.le_refl _) (heap_alloc_new W _)) F (cutA A c 0) m c ((bs.take m).map vb) (by rfl) (by simp; omega) (hrT.alloc _) (vb_one _) (by unfold maxLen; omega) (by omega) (by simp) ?_))
  intro v w1 hown hg _
  have hown : w1.ownsRow W.heap.size 5 1 v m ((bs.take m).map vb) := by simpa using hown
  have hbel : Below W.heap.size W w1 := ((Below.refl _ _).alloc (Nat.le_refl _) _).grown hg (by simp) (fun k hk => by simp [Value.ownBlock] at hk; omega)
  clear hg
  obtain ⟨A1, c1, hv, -⟩ := own_reads hown
  subst hv
  have hb1 := HB.out.below hbel hblt
  have hd0 := hb1.cell 0
  have hf0 := hb1.frozen 0
  simp at hd0
  have hr1 := hr.below hbel (fun k _ hk => h.lt k hk)
  have hb2 := hb1.set_ 0 (.slice (cutA A c m) (bs.length - m) (c - m))
  simp at hb2
  have ho : Only (· = rb) W (w1.setCell ⟨rb, 0, none⟩ (.slice (cutA A c m) (bs.length - m) (c - m))) := (Only.of_below (S := (· = rb)) hbel).setCell (p := ⟨rb, 0, none⟩) (fun _ => rfl) _
  have hown2 := own_only hown (only_rb (W := w1) (rb := rb) (k := 0) (u := .slice (cutA A c m) (bs.length - m) (c - m)) rfl) (fun k hk e => by have := (hown.lt k hk).1; omega)
  have hrD : Reads (w1.setCell ⟨rb, 0, none⟩ (.slice (cutA A c m) (bs.length - m) (c - m))) F (cutA A c m) ((bs.drop m).map vb) := by
    have := (hr1.cut (c := c) (by simpa using hlc) m).only (only_rb (W := w1) (rb := rb) (k := 0) (u := .slice (cutA A c m) (bs.length - m) (c - m)) rfl) (fun k _ hk e => h.ne (e ▸ hk))
    rw [← List.map_drop] at this
    exact this
  have hrd : RD (w1.setCell ⟨rb, 0, none⟩ (.slice (cutA A c m) (bs.length - m) (c - m))) F 112 rb (bs.drop m) false :=
    ⟨⟨cutA A c m, c - m, by rw [List.length_drop]; exact hb2, by simp; omega, by omega, cutA_none hnn (by omega), hrD⟩, h.ne, fun k hk => Nat.lt_of_lt_of_le (h.lt k hk) ho.size⟩
  have HR := Lib.hid hrd
  have HO := Lib.hid hown2
  clear hcA hb1 hb2 hown hown2 hrd hrD hr1 hrT hc0 hc1 hr
  go_wp2_with (refine wpList_cut_from (by rfl) 25 5 (.tmp 38) (.tmp 39) rfl Tryd.underlying25 hsz A bs.length c m (m : Int) (by rfl) (by rfl) rfl (by omega) ?_)
  go_ret
  exact ⟨_, rfl, HO.out, HR.out, ho⟩

theorem bad_any (h : RD W F 99 rb bs bad) : Calls Tryd.prog 51 #[.pointer (some ⟨rb, 0, none⟩)] W fun e w' => e = .returned (.bool bad) ∧ W = w' := by
  obtain ⟨A, c, hb, -⟩ := h.ex
  have hc1 := hb.cell 1
  simp at hc1
  clear hb h
  go_enter Tryd.func51, Tryd.ntmps51
  go_wp2
  go_ret
  exact ⟨rfl, rfl⟩
/-- how much is left -/
def leftN (bs : List UInt8) (bad : Bool) : Nat := if bad then 0 else bs.length
theorem left_any (h : RD W F 99 rb bs bad) : Calls Tryd.prog 64 #[.pointer (some ⟨rb, 0, none⟩)] W fun e w' => e = .returned (.int .i64 (leftN bs bad)) ∧ W = w' := by
  obtain ⟨A, c, hb, -⟩ := h.ex
  have hc0 := hb.cell 0
  simp at hc0
  clear hb
  go_enter Tryd.func64, Tryd.ntmps64
  go_wp2_with fail
  refine (bad_any h).mono ?_
  rintro e w' ⟨rfl, rfl⟩
  cases bad
  all_goals
    go_wp2_with fail
    go_ret
    exact ⟨rfl, rfl⟩
theorem rleft_any (h : RD W F 112 rb bs bad) : Calls Tryd.prog 75 #[.pointer (some ⟨rb, 0, none⟩)] W fun e w' => e = .returned (.int .i64 (leftN bs bad)) ∧ W = w' := by
  obtain ⟨A, c, hb, -⟩ := h.ex
  have hc0 := hb.cell 0
  have hc1 := hb.cell 1
  simp at hc0 hc1
  clear hb h
  cases bad
  all_goals
    go_enter Tryd.func75, Tryd.ntmps75
    go_wp2_with fail
    go_ret
    exact ⟨rfl, rfl⟩
end
end Go.Proofs.YtbmbpcibihddaaaDoor
