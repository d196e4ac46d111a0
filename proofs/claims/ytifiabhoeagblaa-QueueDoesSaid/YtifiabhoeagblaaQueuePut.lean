/-
  The queue's Put, Take, Clear, All, New, one contract each. No condition.
-/
import Derived.Test.YtifiabhoeagblaaQueueOps
namespace Go.Proofs.Ytifiabhoeagblaa
open Go.ChangeShapes Go.WideShapes Go.ChangeAt Go.RowKit

theorem mod_wrap {p i R : Nat} (hp : p < R) (hi : i < R) : (p + i) % R = if p + i < R then p + i else p + i - R := by
  split
  · exact Nat.mod_eq_of_lt (by assumption)
  · rw [Nat.mod_eq_sub_mod (by omega)]; exact Nat.mod_eq_of_lt (by omega)
/-- the ring holds the list, from place p on -/
def Vals (rs : List UInt8) (p R : Nat) (l : List UInt8) : Prop := ∀ i (h : i < l.length), rs[(p + i) % R]? = some l[i]
theorem Vals.snoc {rs : List UInt8} {p R : Nat} {l : List UInt8} (h : Vals rs p R l) (hR : rs.length = R) (hp : p < R) (hl : l.length < R) (c : UInt8) : Vals (rs.set ((p + l.length) % R) c) p R (l ++ [c]) := by
  intro i hi
  have hi' : i < l.length + 1 := by simpa using hi
  have e2 := mod_wrap hp hl
  by_cases hil : i < l.length
  · have e1 := mod_wrap hp (show i < R by omega)
    rw [List.getElem_append_left hil, List.getElem?_set_ne (by rw [e1, e2]; split <;> split <;> omega)]
    exact h i hil
  · have e : i = l.length := by omega
    subst e
    rw [List.getElem?_set_self (by rw [hR]; exact Nat.mod_lt _ (by omega))]
    simp
theorem Vals.drop {rs : List UInt8} {p R : Nat} {l : List UInt8} (h : Vals rs p R l) (m : Nat) : Vals rs ((p + m) % R) R (l.drop m) := by
  intro i hi
  have hi' : i < l.length - m := by simpa using hi
  have := h (m + i) (by omega)
  rw [List.getElem_drop, ← this]
  congr 1
  rw [Nat.mod_add_mod, Nat.add_assoc]

section
variable {w w' : World} {F : Nat → Prop} {qb : Nat} {bs : List UInt8} {room : Nat} {A : Option Addr} {R c p : Nat} {rs : List UInt8}

set_option maxHeartbeats 400000 in
theorem q_grow (hQ : IsQ w F qb bs room A R c p rs) (more : Nat) (hm : bs.length + more ≤ room) :
    Calls Try.prog 37 #[.pointer (some ⟨qb, 0, none⟩), .int .i64 more] w fun e w' => e = .returned (.tuple #[]) ∧
      ∃ (F' : Nat → Prop) (A' : Option Addr) (R' c' p' : Nat) (rs' : List UInt8), (∀ k, F' k → F k ∨ w.heap.size ≤ k) ∧ IsQ w' F' qb bs room A' R' c' p' rs' ∧ bs.length + more ≤ R' ∧ Only (· = qb) w w' := by
  by_cases hgt : R < bs.length + more
  · have h1 := hQ.lr
    have h2 := hQ.lm
    obtain ⟨M, hM⟩ : ∃ M : Nat, (M : Int) = max ((bs.length : Int) + more) (min (2 * (R : Int)) room) := ⟨(max ((bs.length : Int) + more) (min (2 * (R : Int)) room)).toNat, by omega⟩
    refine (q_grow_core hQ more hm hgt M (by omega) (by omega) hM).mono ?_
    rintro e w' ⟨he, g, c', rs', hg, hq, ho⟩
    exact ⟨he, _, _, _, _, _, _, (fun k hk => by rcases hk with rfl | rfl; exact .inl hQ.fq; exact .inr hg), hq, by omega, ho⟩
  · have h1 := hQ.le
    have h2 := hQ.lr
    have h3 := hQ.lm
    have hc0 := hQ.q.cell 0
    have hc2 := hQ.q.cell 2
    simp at hc0 hc2
    have hs : IntKind.i64.wrap ((bs.length : Int) + (more : Int)) = (bs.length : Int) + (more : Int) := IntWalk.i64_in _ (by omega)
    have hd : (bs.length : Int) + (more : Int) ≤ (R : Int) := by omega
    go_enter Try.func37, Try.ntmps37
    go_wp2_with fail
    go_quiet (fail)
    go_wp2_with fail
    refine bodyPost_ret (results_none rfl _ _ _) rfl ?_
    exact ⟨rfl, F, A, R, c, p, rs, fun k hk => .inl hk, hQ.drewN _, by omega, (Only.refl _ _).drewN _⟩

set_option maxHeartbeats 1000000 in
theorem q_put_core (hQ : IsQ w F qb bs room A R c p rs) (G : Nat → Prop) (Ab : Option Addr) (cb : Nat) (b : List UInt8) (hb : Reads w G Ab (b.map vb)) (hG : ∀ k, G k → ¬ F k) (hroom : bs.length + b.length ≤ room) :
    Calls Try.prog 22 #[.pointer (some ⟨qb, 0, none⟩), .slice Ab b.length cb] w fun e w' => e = .returned (.bool true) ∧
      ∃ (F' : Nat → Prop) (A' : Option Addr) (R' c' p' : Nat) (rs' : List UInt8), (∀ k, F' k → F k ∨ w.heap.size ≤ k) ∧ IsQ w' F' qb (bs ++ b) room A' R' c' p' rs' ∧ Only F w w' := by
  have hc4 := hQ.q.cell 4
  simp at hc4
  have h1 := hQ.le
  have h2 := hQ.lr
  have h3 := hQ.lm
  have hle : decide ((room : Int) - (bs.length : Int) < (b.length : Int)) = false := by simp; omega
  go_enter Try.func22, Try.ntmps22
  go_wp2_with fail
  refine (q_room hQ).mono ?_
  rintro e w1 ⟨rfl, k1, rfl⟩
  go_wp2_with fail
  refine (q_grow (hQ.drewN k1) b.length hroom).mono ?_
  rintro e w2 ⟨rfl, F', A', R', c', p', rs', hF', hq', hR', ho'⟩
  go_wp2_with fail
  have ho2 : Only F w w2 := (ho'.of_drewN).mono (fun i _ hi => by rw [hi]; exact hQ.fq)
  have hF2 : ∀ k, F' k → F k ∨ w.heap.size ≤ k := hF'
  have hb2 : Reads w2 (fun k => G k ∧ k < w.heap.size) Ab (b.map vb) := (hb.mono (G := fun k => G k ∧ k < w.heap.size) (fun k hk hg => ⟨hg, hk⟩)).only ho2 (fun k _ hg hf => hG k hg.1 hf)
  have hlm := hq'.lm
  have hlr := hq'.lr
  clear hb hQ ho' hF'
  go_loopw [29] (fun i wr => ∃ (k : Nat) (rk : List UInt8), k ≤ b.length ∧ i = .int .i64 k ∧ Blk wr qb 84 #[.slice A' R' c', .int .i64 p', .int .i64 bs.length, .int .i64 room, .bool true] ∧
    (R' = 0 ∨ ∃ rb, A' = some ⟨rb, 0, none⟩ ∧ Blk wr rb 5 (rk.map vb).toArray ∧ F' rb ∧ rb ≠ qb) ∧ rk.length = R' ∧ Vals rk p' R' (bs ++ b.take k) ∧ Only F' w2 wr) (fun i _ => b.length - (intOf i).toNat)
  case atStart =>
    refine ⟨0, rs', by omega, rfl, hq'.q, ?_, hq'.rl, by rw [List.take_zero, List.append_nil]; exact hq'.val, Only.refl _ _⟩
    rcases hq'.ring with h | ⟨rb, e, h5, h6⟩
    · exact .inl h
    · exact .inr ⟨rb, e, h5, h6, h5.ne_ hq'.q (by decide)⟩
  case round =>
    obtain ⟨k, rk, hk, rfl, hqk, hrk, hlk, hvk, hok⟩ := hrel
    by_cases hlt : k < b.length
    · obtain ⟨rb, rfl, hrb, hFrb, hne⟩ : ∃ rb, A' = some ⟨rb, 0, none⟩ ∧ Blk wr rb 5 (rk.map vb).toArray ∧ F' rb ∧ rb ≠ qb := by
        rcases hrk with h0 | h0
        · omega
        · exact h0
      have hR0 : 0 < R' := by omega
      have hpR := hq'.alt' hR0
      obtain ⟨bb, off, rfl, hGb, hbl, hcb⟩ := (hb2.only hok (fun i _ hg hf => by rcases hF2 i hf with h | h; exact hG i hg.1 h; omega)).at_ (k := k) (by simpa using hlt)
      simp only [List.getElem_map] at hcb
      obtain ⟨z, hz⟩ : ∃ z : Int, z = (b[k].toNat : Int) := ⟨_, rfl⟩
      have hvz : vb b[k] = .int .u8 z := by rw [hz]; rfl
      rw [hvz] at hcb
      have hstep := hvk.snoc hlk hpR (by simp; omega) b[k]
      have hlen : (bs ++ b.take k).length = bs.length + k := by simp; omega
      rw [hlen, List.append_assoc, ← List.take_succ_eq_append_getElem hlt] at hstep
      have hrow : Blk (wr.setCell ⟨rb, (p' + (bs.length + k)) % R', none⟩ (vb b[k])) rb 5 ((rk.set ((p' + (bs.length + k)) % R') b[k]).map vb).toArray := by
        have := hrb.set_ ((p' + (bs.length + k)) % R') (vb b[k])
        simpa [List.map_set] using this
      rw [hvz] at hrow
      have hcrow := hrb.cell ((p' + (bs.length + k)) % R')
      have hfrow := hrb.frozen ((p' + (bs.length + k)) % R')
      have hml : (p' + (bs.length + k)) % R' < R' := Nat.mod_lt _ hR0
      have hmx : ∃ u, ((rk.map vb).toArray)[(p' + (bs.length + k)) % R']? = some u := ⟨_, Array.getElem?_eq_getElem (by simp; omega)⟩
      obtain ⟨u, hu⟩ := hmx
      rw [hu] at hcrow
      have e0 : ((p' : Int) + (bs.length : Int) + (k : Int)).tmod (R' : Int) = (((p' + (bs.length + k)) % R' : Nat) : Int) := by
        rw [← Int.natCast_add, ← Int.natCast_add, ← Int.ofNat_tmod, Nat.add_assoc]
      generalize (p' + (bs.length + k)) % R' = m at hstep hrow hcrow hfrow hml hu e0
      have hs1 : IntKind.i64.wrap ((p' : Int) + (bs.length : Int)) = (p' : Int) + (bs.length : Int) := IntWalk.i64_in _ (by omega)
      have hs2 : IntKind.i64.wrap ((p' : Int) + (bs.length : Int) + (k : Int)) = (p' : Int) + (bs.length : Int) + (k : Int) := IntWalk.i64_in _ (by omega)
      have e2 : IntKind.i64.wrap (m : Int) = (m : Int) := IntWalk.i64_in _ (by omega)
      have e3 : ((R' : Int) == 0) = false := by simp; omega
      have e4 : ¬ R' = 0 := by omega
      have e5 : (0 : Int) ≤ (m : Int) := by omega
      have e6 : (m : Int) < (R' : Int) := by omega
      have hc0 := hqk.cell 0
      have hc1 := hqk.cell 1
      have hc2 := hqk.cell 2
      simp at hc0 hc1 hc2
      have HS := Lib.hid hstep
      have HR := Lib.hid hrow
      have hqk' : Blk (wr.setCell ⟨rb, m, none⟩ (.int .u8 z)) qb 84 #[.slice (some ⟨rb, 0, none⟩) R' c', .int .i64 p', .int .i64 bs.length, .int .i64 room, .bool true] := hqk.far (p := ⟨rb, m, none⟩) (by simpa using (Ne.symm hne)) _
      have hok' : Only F' w2 (wr.setCell ⟨rb, m, none⟩ (.int .u8 z)) := hok.setCell (p := ⟨rb, m, none⟩) (fun _ => hFrb) _
      clear hstep hrow hz hvz hu hvk hrk hb2 hrb hqk hok
      go_wp2_with fail
      go_region_held3 (fun w' => w'.cell? ⟨qb, 0, none⟩ = some (.slice (some ⟨rb, 0, none⟩) R' c') ∧ w'.cell? ⟨qb, 1, none⟩ = some (.int .i64 p') ∧ w'.cell? ⟨qb, 2, none⟩ = some (.int .i64 bs.length)) (first | go_keep) (fail)
      go_wp2_with fail
      go_roundw
      case rel => exact ⟨k + 1, _, by omega, by go_num, hqk', .inr ⟨rb, rfl, HR.out, hFrb, hne⟩, by simp [hlk], HS.out, hok'.drew⟩
      case measure => simp [intOf]; omega
    · obtain rfl : k = b.length := by omega
      rw [List.take_length] at hvk
      have hs : IntKind.i64.wrap ((bs.length : Int) + (b.length : Int)) = (bs.length : Int) + (b.length : Int) := IntWalk.i64_in _ (by omega)
      have hc2 := hqk.cell 2
      have hf2 := hqk.frozen 2
      simp at hc2
      have hq2 : Blk (wr.setCell ⟨qb, 2, none⟩ (.int .i64 ((bs.length : Int) + (b.length : Int)))) qb 84 #[.slice A' R' c', .int .i64 p', .int .i64 (bs ++ b).length, .int .i64 room, .bool true] := by
        have := hqk.set_ 2 (.int .i64 ((bs.length : Int) + (b.length : Int)))
        simpa using this
      have hfin : IsQ (wr.setCell ⟨qb, 2, none⟩ (.int .i64 ((bs.length : Int) + (b.length : Int)))) F' qb (bs ++ b) room A' R' c' p' rk :=
        ⟨hq2, hlk, hq'.rc, hrk.imp id (fun ⟨rb, e, h5, h6, h7⟩ => ⟨rb, e, h5.far (p := ⟨qb, 2, none⟩) (by simpa using h7) _, h6⟩), by simp; omega, hlr, hlm, hq'.alt, hq'.alt', hvk, hq'.fq⟩
      have hoF : Only F w (wr.setCell ⟨qb, 2, none⟩ (.int .i64 ((bs.length : Int) + (b.length : Int)))) :=
        ho2.trans (hok.setCell (p := ⟨qb, 2, none⟩) (fun _ => hq'.fq) _) (fun i hi hf => by rcases hF2 i hf with h | h; exact h; omega)
      have HF := Lib.hid hfin
      clear hq' hqk hrk hvk hok hq2 hfin hb2
      go_wp2_with fail
      go_ret
      exact ⟨rfl, F', A', R', c', p', rk, hF2, HF.out, hoF⟩
end
end Go.Proofs.Ytifiabhoeagblaa
