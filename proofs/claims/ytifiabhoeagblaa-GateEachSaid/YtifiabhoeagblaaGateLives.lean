/-
  'lives' of the gate's statements: returns true in every world, and turns nothing that was there. No condition.
-/
import Derived.Test.YtifiabhoeagblaaGateOps
import Derived.Test.YtifiabhoeagblaaGateFresh
namespace Go.Proofs.Ytifiabhoeagblaa
open Go.ChangeShapes Go.WideShapes Go.ChangeAt Go.RowKit

def firstCells : Array Value := #[.int .i64 65000, .int .u32 184483841, .int .i64 90, .int .i64 30, .int .i64 1, .int .i64 1, .int .i64 0, .slice none 0 0, .int .i64 900, .int .i64 700, .int .i64 16, .int .i64 30, .int .i64 90, .int .i64 2, .int .i64 120, .int .i64 1000, .int .i64 2, .slice none 0 0, .int .i64 65536, .int .i64 65536]

theorem first_any (w : World) : Calls Try.prog 30 #[] w fun e w' => e = .returned (.agg firstCells) ∧ Below w.heap.size w w' := by
  go_enter Try.func30, Try.ntmps30
  go_wp2_with (refine wpList_store_new rfl 38 (.tmp 0) (.tmp 1) rfl w _ firstCells rfl rfl rfl (by kernel_rfl) (by kernel_rfl) (by kernel_rfl) ?_)
  exact bodyPost_ret (results_cell_row rfl _ _ _ 38 firstCells (0, 0) _ rfl (heap_alloc_new _ _) Try.underlying38 rfl (by kernel_rfl)) rfl ⟨rfl, (Below.refl _ _).alloc (Nat.le_refl _) _⟩


def livesInp (b : Nat) : Array Value := #[.slice (some ⟨b + 1, 0, none⟩) 1 1, .slice (some ⟨b + 1 + 1, 0, none⟩) 1 1, .slice none 0 0, .int .i64 0]
def livesW (w1 : World) : World := (((w1.alloc (.cells firstCells 38)).alloc (.cells #[.bool true] 4)).alloc (.cells #[.int .i64 5, .bool true] 46)).alloc (.cells (livesInp w1.heap.size) 41)

/-- what stands in memory while 'lives' runs: the settings, the inputs, the gate -/
structure GL (w W : World) (b gb : Nat) (n : Int) : Prop where
  conf : Blk W b 38 firstCells
  up : Blk W (b + 1) 4 #[.bool true]
  st : Blk W (b + 1 + 1) 46 #[.int .i64 5, .bool true]
  inp : Blk W (b + 1 + 1 + 1) 41 (livesInp b)
  gate : Blk W gb 67 #[.int .i64 n, .int .i64 2]
  bel : Below w.heap.size w W
  lo : w.heap.size ≤ b
  ne : b + 1 + 1 + 1 < gb
theorem GL.only {w W W' : World} {b gb : Nat} {n n' : Int} (h : GL w W b gb n) (ho : Only (· = gb) W W') (hg : Blk W' gb 67 #[.int .i64 n', .int .i64 2]) : GL w W' b gb n' := by
  have := h.ne
  have := h.lo
  exact ⟨h.conf.only ho (by omega), h.up.only ho (by omega), h.st.only ho (by omega), h.inp.only ho (by omega), hg, h.bel.trans (ho.below h.bel.size (by intro i hi; omega)), h.lo, h.ne⟩
theorem GL.below {w W W' : World} {b gb : Nat} {n : Int} (h : GL w W b gb n) (hb : Below W.heap.size W W') : GL w W' b gb n :=
  ⟨h.conf.below hb h.conf.lt, h.up.below hb h.up.lt, h.st.below hb h.st.lt, h.inp.below hb h.inp.lt, h.gate.below hb h.gate.lt, h.bel.trans (hb.mono h.bel.size), h.lo, h.ne⟩
theorem GL.drewN {w W : World} {b gb : Nat} {n : Int} (h : GL w W b gb n) (k : Nat) : GL w (W.drewN k) b gb n := h.below ⟨rfl, rfl, rfl, Nat.le_refl _, fun _ _ => rfl⟩
theorem GL.make {w w1 : World} (b1 : Below w.heap.size w w1) : GL w ((livesW w1).alloc (.cells #[.int .i64 0, .int .i64 2] 67)) w1.heap.size (livesW w1).heap.size 0 := by
  have hs : (livesW w1).heap.size = w1.heap.size + 4 := by simp [livesW]
  have h0 := Blk.new w1 38 firstCells
  have h1 := Blk.new (w1.alloc (.cells firstCells 38)) 4 #[.bool true]
  have h2 := Blk.new ((w1.alloc (.cells firstCells 38)).alloc (.cells #[.bool true] 4)) 46 #[.int .i64 5, .bool true]
  have h3 := Blk.new (((w1.alloc (.cells firstCells 38)).alloc (.cells #[.bool true] 4)).alloc (.cells #[.int .i64 5, .bool true] 46)) 41 (livesInp w1.heap.size)
  simp only [World.size_alloc] at h1 h2 h3
  exact ⟨(((h0.alloc _).alloc _).alloc _).alloc _, ((h1.alloc _).alloc _).alloc _, (h2.alloc _).alloc _, h3.alloc _, Blk.new _ _ _,
    ((((b1.alloc b1.size _).alloc (by simp; have := b1.size; omega) _).alloc (by simp; have := b1.size; omega) _).alloc (by simp; have := b1.size; omega) _).alloc (by simp; have := b1.size; omega) _, b1.size, by omega⟩

theorem reads_blk {w : World} {g : Nat} {t : TypeId} {cs : Array Value} (h : Blk w g t cs) : Reads w (fun _ => True) (some ⟨g, 0, none⟩) cs.toList :=
  .inr ⟨g, 0, rfl, trivial, h.lt, fun j u hj => by rw [h.cell]; simpa using hj⟩

set_option maxHeartbeats 400000 in
theorem gate_lives (w : World) : Calls Try.prog 11 #[] w fun e w' => e = .returned (.bool true) ∧ Below w.heap.size w w' := by
  go_enter Try.func11, Try.ntmps11
  go_wp2_with fail
  refine (first_any _).mono ?_
  rintro e w1 ⟨rfl, b1⟩
  go_wp2_with (refine wpList_store_new (by rfl) 38 (.tmp 1) (.tmp 11) rfl w1 _ firstCells (by rfl) (by rfl) (by rfl) (by kernel_rfl) (by kernel_rfl) (by kernel_rfl) ?_)
  have h0 := GL.make b1
  change Calls _ _ _ (livesW w1) _
  refine (gate_new_ok 2 _ (by omega) (by omega)).mono ?_
  rintro e W ⟨rfl, rfl⟩
  clear b1
  revert h0
  generalize (livesW w1).alloc (.cells #[.int .i64 0, .int .i64 2] 67) = W0
  generalize (livesW w1).heap.size = gb
  generalize w1.heap.size = b
  intro h0
  go_wp2_with fail
  refine (gate_step_yes gb 0 2 _ (by omega) (by omega) (by omega) (by omega) h0.gate).mono ?_
  rintro e W1 ⟨he, hg, ho⟩
  obtain rfl : e = .returned (.bool false) := he
  have h1 : GL w W1 b gb 1 := h0.only ho hg
  clear h0 ho hg
  go_wp2_with fail
  refine (gate_step_yes gb 1 2 _ (by omega) (by omega) (by omega) (by omega) h1.gate).mono ?_
  rintro e W2 ⟨he, hg, ho⟩
  obtain rfl : e = .returned (.bool true) := he
  have h2 : GL w W2 b gb 2 := h1.only ho hg
  clear h1 ho hg
  go_wp2_with fail
  refine (gate_open gb 2 2 _ (by omega) h2.gate).mono ?_
  rintro e W3 ⟨he, k, rfl⟩
  obtain rfl : e = .returned (.bool true) := he
  have h3 := h2.drewN k
  clear h2
  generalize W2.drewN k = W3 at h3 ⊢
  go_wp2_with fail
  refine (gate_step_no gb 2 2 _ h3.gate).mono ?_
  rintro e W4 ⟨rfl, hg, ho⟩
  have h4 : GL w W4 b gb 0 := h3.only ho hg
  clear h3 ho hg
  go_wp2_with fail
  refine (gate_new_bad 0 _ (by omega)).mono ?_
  rintro e W5 ⟨rfl, rfl⟩
  go_wp2_with (first | (refine wpList_load_blk (by rfl) 38 (.tmp 1) rfl b (by rfl) _ firstCells _ h4.conf Try.underlying38 rfl (by kernel_rfl) ?_) | (refine wpList_load_blk (by rfl) 41 (.tmp 2) rfl (b + 1 + 1 + 1) (by rfl) _ (livesInp b) _ h4.inp Try.underlying41 rfl (by kernel_rfl) ?_))
  refine (fresh_any _ _ _ _ _ _ _ _ _ _ _ _ _ _ _ _ _ _ _ _ _ _ _ _ _ _ _ _ [true] [(5, true)] [] (fun _ => True) _ (by omega) (by simp) (by simp) (by simp) (reads_blk h4.up) (reads_blk h4.st) Reads.nil).mono ?_
  rintro e W5 ⟨he, hb⟩
  obtain rfl : e = .returned (.bool true) := he
  have h5 := h4.below hb
  clear h4 hb
  go_wp2_with (first | (refine wpList_load_blk (by rfl) 38 (.tmp 1) rfl b (by rfl) _ firstCells _ h5.conf Try.underlying38 rfl (by kernel_rfl) ?_) | (refine wpList_load_blk (by rfl) 41 (.tmp 2) rfl (b + 1 + 1 + 1) (by rfl) _ (livesInp b) _ h5.inp Try.underlying41 rfl (by kernel_rfl) ?_))
  refine (fresh_any _ _ _ _ _ _ _ _ _ _ _ _ _ _ _ _ _ _ _ _ _ _ _ _ _ _ _ _ [true] [(5, true)] [] (fun _ => True) _ (by omega) (by simp) (by simp) (by simp) (reads_blk h5.up) (reads_blk h5.st) Reads.nil).mono ?_
  rintro e W6 ⟨he, hb⟩
  obtain rfl : e = .returned (.bool false) := he
  have h6 := h5.below hb
  clear h5 hb
  go_wp2_with (refine wpList_load_blk (by rfl) 38 (.tmp 1) rfl b (by rfl) _ firstCells _ h6.conf Try.underlying38 rfl (by kernel_rfl) ?_)
  refine (fresh_any _ _ _ _ _ _ _ _ _ _ _ _ _ _ _ _ _ _ _ _ _ _ _ _ _ _ _ _ [] [] [] (fun _ => True) _ (by omega) (by simp) (by simp) (by simp) Reads.nil Reads.nil Reads.nil).mono ?_
  rintro e W7 ⟨he, hb⟩
  obtain rfl : e = .returned (.bool false) := he
  have h7 := h6.below hb
  clear h6 hb
  go_wp2_with fail
  refine (gate_open gb 0 2 _ (by omega) h7.gate).mono ?_
  rintro e W8 ⟨he, k, rfl⟩
  obtain rfl : e = .returned (.bool false) := he
  have h8 := h7.drewN k
  clear h7
  go_wp2_with fail
  refine (gate_count gb 0 2 _ h8.gate).mono ?_
  rintro e W8 ⟨rfl, rfl⟩
  go_wp2_with fail
  go_ret
  exact ⟨rfl, h8.bel⟩
end Go.Proofs.Ytifiabhoeagblaa
