/-
  The program's types are laid out as the form wants it, fifty at a time. No condition.
-/
import Derived.Test.YtojcehhfeleclaaGreatDoorRows
import Derived.Handed
import Derived.JoinedOf
namespace Go.Proofs.YtojcehhfeleclaaGreatDoor
open Go
theorem rf0 : ((List.range' 0 50).all (rowFine Tryz.prog)) = true := by kernel_rfl
theorem rf1 : ((List.range' 50 50).all (rowFine Tryz.prog)) = true := by kernel_rfl
theorem rf2 : ((List.range' 100 50).all (rowFine Tryz.prog)) = true := by kernel_rfl
theorem rf3 : ((List.range' 150 50).all (rowFine Tryz.prog)) = true := by kernel_rfl
theorem rf4 : ((List.range' 200 50).all (rowFine Tryz.prog)) = true := by kernel_rfl
theorem rf5 : ((List.range' 250 50).all (rowFine Tryz.prog)) = true := by kernel_rfl
theorem rf6 : ((List.range' 300 50).all (rowFine Tryz.prog)) = true := by kernel_rfl
theorem rf7 : ((List.range' 350 50).all (rowFine Tryz.prog)) = true := by kernel_rfl
theorem rf8 : ((List.range' 400 50).all (rowFine Tryz.prog)) = true := by kernel_rfl
theorem rf9 : ((List.range' 450 50).all (rowFine Tryz.prog)) = true := by kernel_rfl
theorem rf10 : ((List.range' 500 50).all (rowFine Tryz.prog)) = true := by kernel_rfl
theorem rf11 : ((List.range' 550 50).all (rowFine Tryz.prog)) = true := by kernel_rfl
theorem rf12 : ((List.range' 600 50).all (rowFine Tryz.prog)) = true := by kernel_rfl
theorem rf13 : ((List.range' 650 50).all (rowFine Tryz.prog)) = true := by kernel_rfl
theorem rf14 : ((List.range' 700 50).all (rowFine Tryz.prog)) = true := by kernel_rfl
theorem rf15 : ((List.range' 750 50).all (rowFine Tryz.prog)) = true := by kernel_rfl
theorem mr0 : ((List.range' 0 100).all fun t => match Tryz.prog.underlying t with | some (.map _ e) => decide (e < Tryz.prog.types.size) | _ => true) = true := by kernel_rfl
theorem mr1 : ((List.range' 100 100).all fun t => match Tryz.prog.underlying t with | some (.map _ e) => decide (e < Tryz.prog.types.size) | _ => true) = true := by kernel_rfl
theorem mr2 : ((List.range' 200 100).all fun t => match Tryz.prog.underlying t with | some (.map _ e) => decide (e < Tryz.prog.types.size) | _ => true) = true := by kernel_rfl
theorem mr3 : ((List.range' 300 100).all fun t => match Tryz.prog.underlying t with | some (.map _ e) => decide (e < Tryz.prog.types.size) | _ => true) = true := by kernel_rfl
theorem mr4 : ((List.range' 400 100).all fun t => match Tryz.prog.underlying t with | some (.map _ e) => decide (e < Tryz.prog.types.size) | _ => true) = true := by kernel_rfl
theorem mr5 : ((List.range' 500 100).all fun t => match Tryz.prog.underlying t with | some (.map _ e) => decide (e < Tryz.prog.types.size) | _ => true) = true := by kernel_rfl
theorem mr6 : ((List.range' 600 100).all fun t => match Tryz.prog.underlying t with | some (.map _ e) => decide (e < Tryz.prog.types.size) | _ => true) = true := by kernel_rfl
theorem mr7 : ((List.range' 700 100).all fun t => match Tryz.prog.underlying t with | some (.map _ e) => decide (e < Tryz.prog.types.size) | _ => true) = true := by kernel_rfl
theorem tsize : Tryz.prog.types.size = 800 := by kernel_rfl
theorem gtypes : Tryz.prog.globals.all (fun g => decide (g.type < Tryz.prog.types.size)) = true := by kernel_rfl
theorem ftypes : Tryz.prog.funcs.all (fun f => f.params.all fun t => decide (t < Tryz.prog.types.size)) = true := by kernel_rfl
theorem range_all (p : Nat → Bool) : ∀ (n s : Nat), ((List.range' s n).all p = true) ↔ ∀ i, s ≤ i → i < s + n → p i = true := by
  intro n s
  rw [List.all_eq_true]
  simp only [List.mem_range'_1]
  exact ⟨fun h i h1 h2 => h i ⟨h1, h2⟩, fun h i hi => h i hi.1 hi.2⟩
theorem andT {a b : Bool} (ha : a = true) (hb : b = true) : (a && b) = true := by rw [ha, hb]; rfl
theorem laidOutT : laidOutB Tryz.prog = true := by
  unfold laidOutB
  refine andT (andT ?_ gtypes) ftypes
  rw [tsize, List.range_eq_range', range_all]
  intro i _ hi
  rcases Nat.lt_or_ge i 50 with h0 | h0
  · exact (range_all _ 50 0).1 rf0 i (by omega) (by omega)
  rcases Nat.lt_or_ge i 100 with h1 | h1
  · exact (range_all _ 50 50).1 rf1 i (by omega) (by omega)
  rcases Nat.lt_or_ge i 150 with h2 | h2
  · exact (range_all _ 50 100).1 rf2 i (by omega) (by omega)
  rcases Nat.lt_or_ge i 200 with h3 | h3
  · exact (range_all _ 50 150).1 rf3 i (by omega) (by omega)
  rcases Nat.lt_or_ge i 250 with h4 | h4
  · exact (range_all _ 50 200).1 rf4 i (by omega) (by omega)
  rcases Nat.lt_or_ge i 300 with h5 | h5
  · exact (range_all _ 50 250).1 rf5 i (by omega) (by omega)
  rcases Nat.lt_or_ge i 350 with h6 | h6
  · exact (range_all _ 50 300).1 rf6 i (by omega) (by omega)
  rcases Nat.lt_or_ge i 400 with h7 | h7
  · exact (range_all _ 50 350).1 rf7 i (by omega) (by omega)
  rcases Nat.lt_or_ge i 450 with h8 | h8
  · exact (range_all _ 50 400).1 rf8 i (by omega) (by omega)
  rcases Nat.lt_or_ge i 500 with h9 | h9
  · exact (range_all _ 50 450).1 rf9 i (by omega) (by omega)
  rcases Nat.lt_or_ge i 550 with h10 | h10
  · exact (range_all _ 50 500).1 rf10 i (by omega) (by omega)
  rcases Nat.lt_or_ge i 600 with h11 | h11
  · exact (range_all _ 50 550).1 rf11 i (by omega) (by omega)
  rcases Nat.lt_or_ge i 650 with h12 | h12
  · exact (range_all _ 50 600).1 rf12 i (by omega) (by omega)
  rcases Nat.lt_or_ge i 700 with h13 | h13
  · exact (range_all _ 50 650).1 rf13 i (by omega) (by omega)
  rcases Nat.lt_or_ge i 750 with h14 | h14
  · exact (range_all _ 50 700).1 rf14 i (by omega) (by omega)
  rcases Nat.lt_or_ge i 800 with h15 | h15
  · exact (range_all _ 50 750).1 rf15 i (by omega) (by omega)
  omega
theorem mapsT : mapsRowed Tryz.prog = true := by
  unfold mapsRowed
  rw [tsize, List.range_eq_range', range_all]
  intro i _ hi
  rcases Nat.lt_or_ge i 100 with h0 | h0
  · have := (range_all _ 100 0).1 mr0 i (by omega) (by omega)
    rw [tsize] at this
    generalize Tryz.prog.underlying i = u at this ⊢
    exact this
  rcases Nat.lt_or_ge i 200 with h1 | h1
  · have := (range_all _ 100 100).1 mr1 i (by omega) (by omega)
    rw [tsize] at this
    generalize Tryz.prog.underlying i = u at this ⊢
    exact this
  rcases Nat.lt_or_ge i 300 with h2 | h2
  · have := (range_all _ 100 200).1 mr2 i (by omega) (by omega)
    rw [tsize] at this
    generalize Tryz.prog.underlying i = u at this ⊢
    exact this
  rcases Nat.lt_or_ge i 400 with h3 | h3
  · have := (range_all _ 100 300).1 mr3 i (by omega) (by omega)
    rw [tsize] at this
    generalize Tryz.prog.underlying i = u at this ⊢
    exact this
  rcases Nat.lt_or_ge i 500 with h4 | h4
  · have := (range_all _ 100 400).1 mr4 i (by omega) (by omega)
    rw [tsize] at this
    generalize Tryz.prog.underlying i = u at this ⊢
    exact this
  rcases Nat.lt_or_ge i 600 with h5 | h5
  · have := (range_all _ 100 500).1 mr5 i (by omega) (by omega)
    rw [tsize] at this
    generalize Tryz.prog.underlying i = u at this ⊢
    exact this
  rcases Nat.lt_or_ge i 700 with h6 | h6
  · have := (range_all _ 100 600).1 mr6 i (by omega) (by omega)
    rw [tsize] at this
    generalize Tryz.prog.underlying i = u at this ⊢
    exact this
  rcases Nat.lt_or_ge i 800 with h7 | h7
  · have := (range_all _ 100 700).1 mr7 i (by omega) (by omega)
    rw [tsize] at this
    generalize Tryz.prog.underlying i = u at this ⊢
    exact this
  omega
end Go.Proofs.YtojcehhfeleclaaGreatDoor
