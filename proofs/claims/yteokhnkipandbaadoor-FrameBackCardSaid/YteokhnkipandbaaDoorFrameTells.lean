/-
  The head of a message's bytes tells its type, and how long it is: the walk of 'FrameTells'. No condition but that the body reads as data and the table of least lengths as it is laid.
-/
import Derived.Test.YteokhnkipandbaaDoorFrameM
namespace Go.Proofs.YteokhnkipandbaaDoor
open Go.ChangeShapes Go.WideShapes Go.ChangeAt Go.RowKit

theorem headR_form (x y z : UInt8) (d : List UInt8) : headR (List.replicate 16 255 ++ (x :: y :: z :: d)) = headOf (List.replicate 16 255) x y z := by
  unfold headR
  rw [if_neg (by simp)]
  rfl
theorem head_put (m : MV) (hok : m.ok = true) : headR m.put = ⟨m.ty, 19 + m.d.length, 0, 0, []⟩ := by
  have hin : (1 ≤ m.ty ∧ m.ty ≤ 4) ∧ m.d.length ≤ 4077 := by simp [MV.ok, fknownB, fitsF] at hok; omega
  obtain ⟨⟨g1, g4⟩, gd⟩ := hin
  have hz : (UInt8.ofNat m.ty.toNat).toNat = m.ty.toNat := by rw [UInt8.toNat_ofNat']; omega
  have hzi : ((UInt8.ofNat m.ty.toNat).toNat : Int) = m.ty := by rw [hz]; omega
  have hb : ofBe (be 2 (19 + m.d.length)) = 19 + m.d.length := by rw [ofBe_be]; exact Nat.mod_eq_of_lt (by omega)
  have hp : m.put = List.replicate 16 255 ++ (UInt8.ofNat ((19 + m.d.length) / 256 ^ 1) :: UInt8.ofNat ((19 + m.d.length) / 256 ^ 0) :: UInt8.ofNat m.ty.toNat :: m.d) := rfl
  have hb2 : ofBe [UInt8.ofNat ((19 + m.d.length) / 256 ^ 1), UInt8.ofNat ((19 + m.d.length) / 256 ^ 0)] = 19 + m.d.length := hb
  rw [hp, headR_form]
  unfold headOf
  rw [if_neg (by decide), hzi, hb2]
  have h1 : fknownB m.ty = true ∧ fitsF m.ty (19 + m.d.length) = true := by simpa [MV.ok] using hok
  have h2 : fitsF m.ty ((19 + m.d.length : Nat) : Int) = true := by
    rw [show ((19 + m.d.length : Nat) : Int) = 19 + (m.d.length : Int) by omega]
    exact h1.2
  rw [if_pos h1.1, if_pos h2]
  congr 1
theorem put_len (m : MV) : m.put.length = 19 + m.d.length := by simp [MV.put, be_length]; omega

set_option maxRecDepth 10000 in
set_option maxHeartbeats 4000000 in
theorem frame_tells_walk (m : MV) (w : World) (hl : m.d.length ≤ 9223372036854775807) (hr : Reads w (fun _ => True) m.A (m.d.map vb)) (hL : LeastAt w) :
    Calls Tryd.prog 10 #[m.val] w fun e w' => e = .returned (.bool true) ∧ Below w.heap.size w w' := by
  have hb0 := below_a1 w (.cells m.cells 61)
  have hk0 := Blk.new w 61 m.cells
  have hr0 := (hr.mono (G := (· < w.heap.size)) (fun _ hk _ => hk))
  have HC := Lib.hid fun W => frefcheck_any m W hl
  cases hok : m.ok
  case false =>
    rw [hok] at HC
    obtain ⟨ty, A, c, d⟩ := m
    simp only [MV.val, MV.cells] at *
    clear hr hr0
    obtain ⟨p0, p1⟩ := blk2c hk0
    go_enter Tryd.func10, Tryd.ntmps10
    go_wp2_with fail
    refine (HC.out _).mono ?_
    rintro e W1 ⟨rfl, b1⟩
    have B1 := hb0.trans (b1.mono hb0.size)
    clear p0 p1
    go_wp2_with fail
    refine (frame_lives _ (hL.below B1)).mono ?_
    rintro e W2 ⟨rfl, b2⟩
    go_wp2_with fail
    go_ret
    exact ⟨rfl, B1.trans (b2.mono B1.size)⟩
  rw [hok] at HC
  have hd : m.d.length ≤ 4077 := by simp [MV.ok, fknownB, fitsF] at hok; omega
  have HP := Lib.hid fun (W : World) (hb : Below w.heap.size w W) => fput_ok m W _ (hL.below hb) hok (hr0.below hb (fun _ _ h => h))
  have hh := head_put m hok
  have hpl := put_len m
  obtain ⟨bs, hbs⟩ : ∃ bs, bs = m.put := ⟨_, rfl⟩
  rw [← hbs] at HP hh hpl
  have HH := Lib.hid fun (A : Option Addr) (c : Nat) (W : World) (F : Nat → Prop) (hb : Below w.heap.size w W) (hc : bs.length ≤ c) (hrr : Reads W F A (bs.map vb)) => head_any A c bs F W hc (by omega) hrr (hL.below hb)
  rw [hh] at HH
  have HPL := Lib.hid fun (_ : Unit) => hpl
  clear hbs hr hr0 hok hh hpl
  obtain ⟨ty, A, c, d⟩ := m
  simp only [MV.val, MV.cells, HR.val] at *
  obtain ⟨p0, p1⟩ := blk2c hk0
  go_enter Tryd.func10, Tryd.ntmps10
  go_wp2_with fail
  refine (HC.out _).mono ?_
  rintro e W1 ⟨rfl, b1⟩
  have B1 := hb0.trans (b1.mono hb0.size)
  have k1 := hk0.below b1 hk0.lt
  clear p0 p1 hb0 hk0 b1
  obtain ⟨p0, p1⟩ := blk2c k1
  go_wp2_with fail
  refine (HP.out _ B1).mono ?_
  rintro e W2 ⟨v, rfl, o2, b2⟩
  obtain ⟨A2, c2, hv2, hc2, _, _, rd2⟩ := own_reads o2
  subst hv2
  have B2 := B1.trans (b2.mono B1.size)
  have k2 := k1.below b2 k1.lt
  clear p0 p1 o2 b2 B1 k1
  have HH2 := Lib.hid fun (_ : Unit) => HH.out A2 c2 W2 _ B2 hc2 rd2
  clear rd2
  go_wp2_with fail
  refine (HH2.out ()).mono ?_
  rintro e W3 ⟨v3, rfl, p3⟩
  obtain ⟨A3, c3, hv3, -⟩ := own_reads p3.own
  have hv3 : v3 = .slice A3 0 c3 := hv3
  subst hv3
  have al3 := below_a1 W3 (.cells #[.int .i64 0, .int .i64 0, .slice A3 0 c3] 68)
  have b23 := p3.bel.trans (al3.mono p3.bel.size)
  have B3 := B2.trans (b23.mono B2.size)
  have k3 := k2.below b23 k2.lt
  have n3 := Blk.new W3 68 #[.int .i64 0, .int .i64 0, .slice A3 0 c3]
  clear p3 al3 b23 B2 k2 HH2
  go_wp2_with fail
  refine (frame_lives _ (hL.below B3)).mono ?_
  rintro e W4 ⟨rfl, b4⟩
  have B4 := B3.trans (b4.mono B3.size)
  have k4 := k3.below b4 k3.lt
  have n4 := n3.below b4 n3.lt
  clear b4 B3 k3 n3
  obtain ⟨p0, p1⟩ := blk2c k4
  obtain ⟨q0, -⟩ := blk3 n4
  have e1 : IntKind.i64.wrap (19 + (d.length : Int)) = 19 + (d.length : Int) := IntWalk.i64_in _ (by omega)
  have e2 : (bs.length : Int) = 19 + (d.length : Int) := by have := HPL.out (); omega
  have e3 : (ty == ty) = true := by simp
  have e4 : ((19 + (d.length : Int)) == (19 + (d.length : Int))) = true := by simp
  clear hl hd
  go_wp2_with fail
  go_ret
  exact ⟨rfl, B4⟩
end Go.Proofs.YteokhnkipandbaaDoor
