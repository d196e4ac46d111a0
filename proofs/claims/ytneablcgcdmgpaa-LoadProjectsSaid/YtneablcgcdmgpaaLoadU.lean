/-
  The document's loads of wants. Under: the wants stand in memory.
-/
import Derived.Test.YtneablcgcdmgpaaLoadT
namespace Go.Proofs.Ytneablcgcdmgpaa
open Go.ChangeShapes Go.WideShapes Go.ChangeAt Go.RowKit Go.Maps

theorem projL_len : ∀ (ws : List WV), (projL ws).s.length ≤ ws.length := by
  suffices h : ∀ (ws : List WV) (x : LD), x.ok → (ws.foldl (fun x v => x.add v.goes v.n) x).s.length ≤ x.s.length + ws.length by
    intro ws
    have := h ws ⟨[], false⟩ LD.ok_nil
    simpa [projL] using this
  intro ws
  induction ws with
  | nil => intro x _; simp
  | cons v ws ih =>
    intro x hx
    have h1 := ih (x.add v.goes v.n) (LD.ok_add hx _ _)
    have h2 := LD.len_add x hx v.goes v.n
    simp only [List.foldl_cons, List.length_cons]
    omega
set_option maxRecDepth 20000 in
set_option maxHeartbeats 8000000 in
theorem rproject_any {w : World} {A : Option Addr} {c : Nat} {ws : List WV} (hw : WantsIn w A ws) (hm : ws.length ≤ 1000) :
    Calls Try.prog 22 #[.slice A ws.length c] w fun e w' => ∃ h, e = .returned (.pointer (some ⟨h, 0, none⟩)) ∧ RefAt w' (fun k => h + 1 ≤ k) h (projL ws) ∧ Below w.heap.size w w' ∧ w.heap.size ≤ h := by
  have HW := Lib.hid hw
  have hlen := hw.len
  clear hw
  go_enter Try.func22, Try.ntmps22
  go_wp2_with fail
  have HB0 := Lib.hid (Blk.new w 28 #[.slice none 0 0, .bool false])
  go_loopw [4] (fun i wr => ∃ k : Nat, k ≤ ws.length ∧ i = .int .i64 k ∧ RefAt wr (fun k => w.heap.size + 1 ≤ k) w.heap.size (projL (ws.take k)) ∧ Below w.heap.size w wr) (fun i _ => ws.length - (intOf i).toNat)
  case atStart => exact ⟨0, Nat.zero_le _, rfl, ⟨⟨none, 0, HB0.out, Reads.nil⟩, by omega⟩, below_a1 _ _⟩
  case round =>
    obtain ⟨k, hk, rfl, hl, hbr⟩ := hrel
    have HLR := Lib.hid hl
    have HBR := Lib.hid hbr
    have hgl := hl.lt
    clear hl hbr
    by_cases hkl : k < ws.length
    · obtain ⟨bk, off, rfl, _, hbw, hrg⟩ := HW.out.rd.rangeAt (sz := 16) (by omega) (fun v hv => by simpa using (HW.out.all v hv).1.size) hkl
      have HRG := Lib.hid fun W (hb : Below w.heap.size w W) => (fun j v hj => (hb.cell (p := ⟨bk, off + k * 16 + j, none⟩) hbw).trans (hrg j v hj) : W.rangeAt bk (off + k * 16) ws[k].cs.toList)
      have hv := HW.out.all _ (List.getElem_mem hkl)
      have HT := Lib.hid (projL_take hkl)
      have HLN := Lib.hid (projL_len (ws.take k))
      clear hrg
      generalize ws[k] = v at *
      have hnum := hv.1.num
      have hsz := hv.1.size
      have HGW := Lib.hid (WV.goes_wf hv.1)
      have HTF := Lib.hid (WV.took_form hv.1)
      have HTK := Lib.hid fun W (hb : Below w.heap.size w W) => rtaken_any (w := W) v hv.1 (hv.2.2.below hb (fun _ h _ => h)) v.at_ hv.2.1
      have HOKP := Lib.hid (projL_ok (ws.take k))
      generalize projL (ws.take k) = x at *
      obtain ⟨d0, d1, d2, d3, d4, d5, d6, d7, d8, d9, htk⟩ := HTF.out
      rw [htk] at HTK
      clear HTF htk hv
      generalize v.goes = gf at *
      obtain ⟨cs, nn, f, D', dc, dd⟩ := v
      simp only at *
      obtain ⟨c0, c1, c2, c3, c4, c5, c6, c7, c8, c9, c10, c11, c12, c13, c14, c15, rfl⟩ := cells16 hsz
      simp at hnum
      subst hnum
      clear hsz
      have HK := Lib.hid fun W (hb : Below w.heap.size w W) => (show (W.cell? ⟨bk, off + k * 16, none⟩ = some c0) ∧ (W.cell? ⟨bk, off + k * 16 + 1, none⟩ = some c1) ∧ (W.cell? ⟨bk, off + k * 16 + 2, none⟩ = some (.int .i64 nn)) ∧ (W.cell? ⟨bk, off + k * 16 + 3, none⟩ = some c3) ∧ (W.cell? ⟨bk, off + k * 16 + 4, none⟩ = some c4) ∧ (W.cell? ⟨bk, off + k * 16 + 5, none⟩ = some c5) ∧ (W.cell? ⟨bk, off + k * 16 + 6, none⟩ = some c6) ∧ (W.cell? ⟨bk, off + k * 16 + 7, none⟩ = some c7) ∧ (W.cell? ⟨bk, off + k * 16 + 8, none⟩ = some c8) ∧ (W.cell? ⟨bk, off + k * 16 + 9, none⟩ = some c9) ∧ (W.cell? ⟨bk, off + k * 16 + 10, none⟩ = some c10) ∧ (W.cell? ⟨bk, off + k * 16 + 11, none⟩ = some c11) ∧ (W.cell? ⟨bk, off + k * 16 + 12, none⟩ = some c12) ∧ (W.cell? ⟨bk, off + k * 16 + 13, none⟩ = some c13) ∧ (W.cell? ⟨bk, off + k * 16 + 14, none⟩ = some c14) ∧ (W.cell? ⟨bk, off + k * 16 + 15, none⟩ = some c15) from by
        have h := HRG.out W hb
        exact ⟨h 0 _ rfl, h 1 _ rfl, h 2 _ rfl, h 3 _ rfl, h 4 _ rfl, h 5 _ rfl, h 6 _ rfl, h 7 _ rfl, h 8 _ rfl, h 9 _ rfl, h 10 _ rfl, h 11 _ rfl, h 12 _ rfl, h 13 _ rfl, h 14 _ rfl, h 15 _ rfl⟩)
      have hk1 := HK.out wr HBR.out
      clear HRG
      go_wp2_with fail
      have hfr := face_run d0 d1 d2 d3 d4 d5 d6 d7 d8 d9 gf
      go_region_held3 (fun W => (W.cell? ⟨bk, off + k * 16, none⟩ = some c0) ∧ (W.cell? ⟨bk, off + k * 16 + 1, none⟩ = some c1) ∧ (W.cell? ⟨bk, off + k * 16 + 2, none⟩ = some (.int .i64 nn)) ∧ (W.cell? ⟨bk, off + k * 16 + 3, none⟩ = some c3) ∧ (W.cell? ⟨bk, off + k * 16 + 4, none⟩ = some c4) ∧ (W.cell? ⟨bk, off + k * 16 + 5, none⟩ = some c5) ∧ (W.cell? ⟨bk, off + k * 16 + 6, none⟩ = some c6) ∧ (W.cell? ⟨bk, off + k * 16 + 7, none⟩ = some c7) ∧ (W.cell? ⟨bk, off + k * 16 + 8, none⟩ = some c8) ∧ (W.cell? ⟨bk, off + k * 16 + 9, none⟩ = some c9) ∧ (W.cell? ⟨bk, off + k * 16 + 10, none⟩ = some c10) ∧ (W.cell? ⟨bk, off + k * 16 + 11, none⟩ = some c11) ∧ (W.cell? ⟨bk, off + k * 16 + 12, none⟩ = some c12) ∧ (W.cell? ⟨bk, off + k * 16 + 13, none⟩ = some c13) ∧ (W.cell? ⟨bk, off + k * 16 + 14, none⟩ = some c14) ∧ (W.cell? ⟨bk, off + k * 16 + 15, none⟩ = some c15)) (first | exact hk4 | exact hk3 | exact hk1 | go_keep) ((first
        | (go_at_call 25; refine (HTK.out _ (by repeat (first | exact HBR.out | refine Below.drew ?_))).mono ?_; rintro e w3 ⟨rfl, hb3⟩; have hbw3 : Below wr.heap.size wr w3 := Below.trans (by repeat (first | exact Below.refl _ _ | refine Below.drew ?_)) (hb3.mono (by simp)); have hb3w : Below w.heap.size w w3 := HBR.out.trans (hbw3.mono HBR.out.size); have hk3 := HK.out w3 hb3w)
        | (go_at_call 11; refine (radd2_any (HLR.out.below (by repeat (first | exact hbw3 | refine Below.drew ?_))) HOKP.out (by have := HLN.out; simp at this; omega) gf nn).mono ?_; rintro e w4 ⟨rfl, hl4, ho4⟩; have hb4 : Below w.heap.size w w4 := Below.trans (by repeat (first | exact hb3w | refine Below.drew ?_)) (ho4.below (by exact hb3w.size) (by rintro i rfl; omega)); have hk4 := HK.out w4 hb4)))
      rw [← HT.out] at hl4
      have HL4 := Lib.hid hl4
      have hsz3 : w.heap.size + 1 ≤ w3.heap.size := Nat.le_trans hgl hbw3.size
      clear hl4
      go_wp2_with fail
      go_roundw
      case rel => exact ⟨k + 1, by omega, by go_num, HL4.out.mono (fun j _ hj => by rcases hj with hj | hj; exact hj; first | omega | (simp at hj; omega)) (by omega), hb4⟩
      case measure => simp [intOf]; omega
    · obtain rfl : k = ws.length := by omega
      have HF := Lib.hid HLR.out
      rw [List.take_length] at HF
      go_wp2_with fail
      go_ret
      exact ⟨w.heap.size, rfl, HF.out, HBR.out, Nat.le_refl _⟩
end Go.Proofs.Ytneablcgcdmgpaa
