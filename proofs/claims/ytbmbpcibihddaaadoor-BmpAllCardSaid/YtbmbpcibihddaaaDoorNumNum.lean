/-
  The next number of a reader, the program's and the document's; and nil readers. No condition but that the reader stands in memory.
-/
import Derived.Test.YtbmbpcibihddaaaDoorNumReader
namespace Go.Proofs.YtbmbpcibihddaaaDoor
open Go.ChangeShapes Go.WideShapes Go.ChangeAt Go.RowKit

/-- does a reader give a number so wide? -/
def numOk (n : Int) (bs : List UInt8) (bad : Bool) : Bool := decide (1 ≤ n) && decide (n ≤ 4) && rdOk n bs bad
theorem rdOk_nat {m : Nat} {bs : List UInt8} {bad : Bool} (h : rdOk m bs bad = true) : bad = false ∧ m ≤ bs.length := by
  simp [rdOk] at h
  exact ⟨h.1, by omega⟩
theorem rdOk_form {n : Int} {bs : List UInt8} {bad : Bool} (h : rdOk n bs bad = true) : bad = false ∧ ∃ m : Nat, n = (m : Int) ∧ m ≤ bs.length := by
  simp [rdOk] at h
  exact ⟨h.1.1, n.toNat, by omega, by omega⟩
theorem own_rd {W : World} {B n : Nat} {v : Value} {l : List UInt8} (h : W.ownsRow B 5 1 v n (l.map vb)) (hl : l.length = n) : ∃ A c, v = .slice A n c ∧ l.length = n ∧ Reads W (fun k => B ≤ k) A (l.map vb) := by
  obtain ⟨A, c, hv, _, _, _, hr⟩ := own_reads h
  exact ⟨A, c, hv, hl, hr.mono (fun _ _ h => h.1)⟩

section
variable {W : World} {F : Nat → Prop} {rb : Nat} {bs : List UInt8} {bad : Bool}
theorem num_ok (h : RD W F 99 rb bs false) (m : Nat) (h1 : 1 ≤ m) (h4 : m ≤ 4) (hm : m ≤ bs.length) (hl : bs.length ≤ 140737488355328) :
    Calls Tryd.prog 35 #[.pointer (some ⟨rb, 0, none⟩), .int .i64 m] W fun e w' => e = .returned (.int .i64 (ofBe (bs.take m))) ∧ RD w' F 99 rb (bs.drop m) false ∧ Only (· = rb) W w' := by
  have g1 : ¬ (m : Int) < 1 := by omega
  have g4 : ¬ (4 : Int) < (m : Int) := by omega
  go_enter Tryd.func35, Tryd.ntmps35
  go_wp2_with fail
  refine (bytes_ok h m hm hl).mono ?_
  rintro e w1 ⟨v, rfl, hown, hrd, ho⟩
  have hlT : (bs.take m).length = m := by simp; omega
  obtain ⟨A, c, hv, _, hr⟩ := own_rd hown hlT
  subst hv
  go_wp2_with fail
  have hg := get_ok A c (bs.take m) _ _ (by omega) (by omega) hr
  rw [hlT] at hg
  refine hg.mono ?_
  rintro e w' ⟨rfl, rfl⟩
  go_wp2_with fail
  go_ret
  exact ⟨rfl, hrd, ho⟩
theorem num_no (h : RD W F 99 rb bs bad) (n : Int) (hn : numOk n bs bad = false) :
    Calls Tryd.prog 35 #[.pointer (some ⟨rb, 0, none⟩), .int .i64 n] W fun e w' => e = .returned (.int .i64 0) ∧ RD w' F 99 rb bs true ∧ Only (· = rb) W w' := by
  obtain ⟨A, c, hb, hlc, hcm, hnn, hr⟩ := h.ex
  by_cases hw : 1 ≤ n ∧ n ≤ 4
  case pos =>
    have hn2 : rdOk n bs bad = false := by simpa [numOk, hw.1, hw.2] using hn
    have g1 : ¬ n < 1 := by omega
    have g4 : ¬ 4 < n := by omega
    clear hb hr hw hn
    go_enter Tryd.func35, Tryd.ntmps35
    go_wp2_with fail
    refine (bytes_no h n hn2).mono ?_
    rintro e w1 ⟨rfl, hrd, ho⟩
    go_wp2_with fail
    refine (get_bad none 0 0 _ (by omega) (by omega)).mono ?_
    rintro e w' ⟨rfl, rfl⟩
    go_wp2_with fail
    go_ret
    exact ⟨rfl, hrd, ho⟩
  have hc1 := hb.cell 1
  have hf1 := hb.frozen 1
  simp at hc1
  have hb2 := hb.set_ 1 (.bool true)
  simp at hb2
  have ho1 := only_rb (W := W) (rb := rb) (k := 1) (u := .bool true) rfl
  have hrd : RD (W.setCell ⟨rb, 1, none⟩ (.bool true)) F 99 rb bs true := ⟨⟨A, c, hb2, hlc, hcm, hnn, hr.only ho1 (fun k _ hk e => h.ne (e ▸ hk))⟩, h.ne, fun k hk => Nat.lt_of_lt_of_le (h.lt k hk) ho1.size⟩
  have HR := Lib.hid hrd
  clear hrd hb2 hb h hr hn
  by_cases h1 : n < 1
  case pos =>
    clear hw
    go_enter Tryd.func35, Tryd.ntmps35
    go_wp2_with fail
    refine (bytes_no HR.out n (by simp [rdOk])).mono ?_
    rintro e w1 ⟨rfl, hrd, ho⟩
    go_wp2_with fail
    refine (get_bad none 0 0 _ (by omega) (by omega)).mono ?_
    rintro e w' ⟨rfl, rfl⟩
    go_wp2_with fail
    go_ret
    exact ⟨rfl, hrd, ho1.trans ho (fun _ _ h => h)⟩
  have h4 : 4 < n := by omega
  clear hw
  go_enter Tryd.func35, Tryd.ntmps35
  go_wp2_with fail
  refine (bytes_no HR.out n (by simp [rdOk])).mono ?_
  rintro e w1 ⟨rfl, hrd, ho⟩
  go_wp2_with fail
  refine (get_bad none 0 0 _ (by omega) (by omega)).mono ?_
  rintro e w' ⟨rfl, rfl⟩
  go_wp2_with fail
  go_ret
  exact ⟨rfl, hrd, ho1.trans ho (fun _ _ h => h)⟩

theorem rnum_ok (h : RD W F 112 rb bs false) (m : Nat) (h1 : 1 ≤ m) (h4 : m ≤ 4) (hm : m ≤ bs.length) (hl : bs.length ≤ 140737488355328) :
    Calls Tryd.prog 73 #[.pointer (some ⟨rb, 0, none⟩), .int .i64 m] W fun e w' => e = .returned (.int .i64 (ofBe (bs.take m))) ∧ RD w' F 112 rb (bs.drop m) false ∧ Only (· = rb) W w' := by
  have g1 : ¬ (m : Int) < 1 := by omega
  have g4 : ¬ (4 : Int) < (m : Int) := by omega
  go_enter Tryd.func73, Tryd.ntmps73
  go_wp2_with fail
  refine (rbytes_ok h m hm hl).mono ?_
  rintro e w1 ⟨v, rfl, hown, hrd, ho⟩
  have hlT : (bs.take m).length = m := by simp; omega
  obtain ⟨A, c, hv, _, hr⟩ := own_rd hown hlT
  subst hv
  go_wp2_with fail
  have hg := rget_ok A c (bs.take m) _ _ (by omega) hr
  rw [hlT] at hg
  refine hg.mono ?_
  rintro e w' ⟨rfl, rfl⟩
  go_wp2_with fail
  go_ret
  exact ⟨rfl, hrd, ho⟩
theorem rnum_no (h : RD W F 112 rb bs bad) (n : Int) (hn : numOk n bs bad = false) :
    Calls Tryd.prog 73 #[.pointer (some ⟨rb, 0, none⟩), .int .i64 n] W fun e w' => e = .returned (.int .i64 0) ∧ RD w' F 112 rb bs true ∧ Only (· = rb) W w' := by
  obtain ⟨A, c, hb, hlc, hcm, hnn, hr⟩ := h.ex
  by_cases hw : 1 ≤ n ∧ n ≤ 4
  case pos =>
    have hn2 : rdOk n bs bad = false := by simpa [numOk, hw.1, hw.2] using hn
    have g1 : ¬ n < 1 := by omega
    have g4 : ¬ 4 < n := by omega
    clear hb hr hw hn
    go_enter Tryd.func73, Tryd.ntmps73
    go_wp2_with fail
    refine (rbytes_no h n hn2).mono ?_
    rintro e w1 ⟨rfl, hrd, ho⟩
    go_wp2_with fail
    refine (rget_ok none 0 [] (fun _ => False) _ (by simp) Reads.nil).mono ?_
    rintro e w' ⟨rfl, rfl⟩
    go_wp2_with fail
    go_ret
    exact ⟨rfl, hrd, ho⟩
  have hc1 := hb.cell 1
  have hf1 := hb.frozen 1
  simp at hc1
  have hb2 := hb.set_ 1 (.bool true)
  simp at hb2
  have ho1 := only_rb (W := W) (rb := rb) (k := 1) (u := .bool true) rfl
  have hrd : RD (W.setCell ⟨rb, 1, none⟩ (.bool true)) F 112 rb bs true := ⟨⟨A, c, hb2, hlc, hcm, hnn, hr.only ho1 (fun k _ hk e => h.ne (e ▸ hk))⟩, h.ne, fun k hk => Nat.lt_of_lt_of_le (h.lt k hk) ho1.size⟩
  have HR := Lib.hid hrd
  clear hrd hb2 hb h hr hn
  by_cases h1 : n < 1
  case pos =>
    clear hw
    go_enter Tryd.func73, Tryd.ntmps73
    go_wp2_with fail
    go_ret
    exact ⟨rfl, HR.out, ho1⟩
  have h4 : 4 < n := by omega
  clear hw
  go_enter Tryd.func73, Tryd.ntmps73
  go_wp2_with fail
  go_ret
  exact ⟨rfl, HR.out, ho1⟩
end

theorem bytes_nil (n : Int) (W : World) : Calls Tryd.prog 63 #[.pointer none, .int .i64 n] W fun e w' => e = .returned (.slice none 0 0) ∧ W = w' := by
  go_enter Tryd.func63, Tryd.ntmps63
  go_wp2_with fail
  go_ret
  exact ⟨rfl, rfl⟩
theorem bad_nil (W : World) : Calls Tryd.prog 51 #[.pointer none] W fun e w' => e = .returned (.bool true) ∧ W = w' := by
  go_enter Tryd.func51, Tryd.ntmps51
  go_wp2_with fail
  go_ret
  exact ⟨rfl, rfl⟩
theorem left_nil (W : World) : Calls Tryd.prog 64 #[.pointer none] W fun e w' => e = .returned (.int .i64 0) ∧ W = w' := by
  go_enter Tryd.func64, Tryd.ntmps64
  go_wp2_with fail
  refine (bad_nil _).mono ?_
  rintro e w' ⟨rfl, rfl⟩
  go_wp2_with fail
  go_ret
  exact ⟨rfl, rfl⟩
theorem num_nil (n : Int) (W : World) : Calls Tryd.prog 35 #[.pointer none, .int .i64 n] W fun e w' => e = .returned (.int .i64 0) ∧ W = w' := by
  go_enter Tryd.func35, Tryd.ntmps35
  go_wp2_with fail
  refine (bytes_nil n _).mono ?_
  rintro e w' ⟨rfl, rfl⟩
  go_wp2_with fail
  refine (get_bad none 0 0 _ (by omega) (by omega)).mono ?_
  rintro e w' ⟨rfl, rfl⟩
  go_wp2_with fail
  go_ret
  exact ⟨rfl, rfl⟩
end Go.Proofs.YtbmbpcibihddaaaDoor
