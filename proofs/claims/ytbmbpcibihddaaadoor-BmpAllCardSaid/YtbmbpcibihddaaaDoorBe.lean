/-
  A number's bytes, the highest first, and the number of bytes. No program in sight. No condition.
-/
import Derived.Test.YtbmbpcibihddaaaDoorKit
namespace Go.Proofs.YtbmbpcibihddaaaDoor

/-- the lowest k bytes of a number, the highest of them first -/
def be : Nat → Nat → List UInt8
  | 0, _ => []
  | k + 1, n => UInt8.ofNat (n / 256 ^ k) :: be k n
theorem be_length : ∀ (k n : Nat), (be k n).length = k
  | 0, _ => rfl
  | k + 1, n => by simp [be, be_length k n]
theorem be_get : ∀ (k n i : Nat), i < k → (be k n)[i]? = some (UInt8.ofNat (n / 256 ^ (k - 1 - i)))
  | k + 1, n, 0, _ => by simp [be]
  | k + 1, n, i + 1, h => by
    have := be_get k n i (by omega)
    simp only [be, List.getElem?_cons_succ, this]
    rw [show k + 1 - 1 - (i + 1) = k - 1 - i from by omega]
/-- the number of bytes -/
def ofBe (l : List UInt8) : Nat := l.foldl (fun n c => 256 * n + c.toNat) 0
theorem ofBe_snoc (l : List UInt8) (c : UInt8) : ofBe (l ++ [c]) = 256 * ofBe l + c.toNat := by simp [ofBe]
theorem foldl_be (l : List UInt8) : ∀ a : Nat, l.foldl (fun n c => 256 * n + c.toNat) a = a * 256 ^ l.length + ofBe l := by
  induction l with
  | nil => intro a; simp [ofBe]
  | cons c l ih =>
    intro a
    have h0 := ih c.toNat
    have h1 := ih (256 * a + c.toNat)
    simp only [ofBe, List.foldl_cons, List.length_cons, Nat.mul_zero, Nat.zero_add] at *
    rw [h1, h0, Nat.pow_succ, Nat.add_mul]
    rw [show 256 * a * 256 ^ l.length = a * (256 ^ l.length * 256) from by rw [Nat.mul_comm (256 ^ l.length) 256, ← Nat.mul_assoc, Nat.mul_comm a 256]]
    omega
theorem ofBe_cons (c : UInt8) (l : List UInt8) : ofBe (c :: l) = c.toNat * 256 ^ l.length + ofBe l := by
  have := foldl_be l c.toNat
  simpa [ofBe] using this
theorem ofBe_be : ∀ (k n : Nat), ofBe (be k n) = n % 256 ^ k
  | 0, n => by simp [be, ofBe, Nat.mod_one]
  | k + 1, n => by
    rw [be, ofBe_cons, be_length, ofBe_be k n]
    have e : (UInt8.ofNat (n / 256 ^ k)).toNat = n / 256 ^ k % 256 := by rw [UInt8.toNat_ofNat']
    rw [e, Nat.pow_succ, Nat.mod_mul, Nat.mul_comm, Nat.add_comm]
theorem ofBe_lt (l : List UInt8) : ofBe l < 256 ^ l.length := by
  induction l with
  | nil => simp [ofBe]
  | cons c l ih =>
    rw [ofBe_cons, List.length_cons, Nat.pow_succ]
    have hc : c.toNat < 256 := c.toNat_lt
    have : c.toNat * 256 ^ l.length ≤ 255 * 256 ^ l.length := Nat.mul_le_mul_right _ (by omega)
    omega
end Go.Proofs.YtbmbpcibihddaaaDoor
