/- Layer 1 (bits), plain: a number's bytes. No program in sight. -/
import Derived.Test.YtailbppddnegoaaW
namespace Go.Proofs.Ytailbppddnegoaa
open Go.RowKit
set_option linter.unusedVariables false
set_option maxRecDepth 100000

/-- A number's k lowest bytes, the lowest first. -/
def leB : Nat → Nat → List UInt8
  | _, 0 => []
  | n, k + 1 => UInt8.ofNat (n % 256) :: leB (n / 256) k
theorem leB_length (n k : Nat) : (leB n k).length = k := by
  induction k generalizing n with
  | zero => rfl
  | succ k ih => simp [leB, ih]
theorem leB_snoc (n k : Nat) : leB n (k + 1) = leB n k ++ [UInt8.ofNat (n / 256 ^ k % 256)] := by
  induction k generalizing n with
  | zero => simp [leB]
  | succ k ih =>
    rw [leB, ih (n / 256)]
    simp only [leB, List.cons_append]
    rw [Nat.div_div_eq_div_mul, Nat.pow_succ, Nat.mul_comm]
/-- The number of bytes. -/
def ofLe : List UInt8 → Nat
  | [] => 0
  | c :: l => c.toNat + 256 * ofLe l
theorem ofLe_lt (l : List UInt8) : ofLe l < 256 ^ l.length := by
  induction l with
  | nil => simp [ofLe]
  | cons c l ih =>
    simp only [ofLe, List.length_cons, Nat.pow_succ]
    have := c.toNat_lt
    omega
theorem ofLe_append (l m : List UInt8) : ofLe (l ++ m) = ofLe l + 256 ^ l.length * ofLe m := by
  induction l with
  | nil => simp [ofLe]
  | cons c l ih =>
    simp only [List.cons_append, ofLe, ih, List.length_cons, Nat.pow_succ]
    rw [Nat.mul_add, ← Nat.mul_assoc, Nat.mul_comm 256 (256 ^ l.length)]
    omega
theorem leB_ofLe (l : List UInt8) : leB (ofLe l) l.length = l := by
  induction l with
  | nil => rfl
  | cons c l ih =>
    simp only [ofLe, List.length_cons, leB]
    have := c.toNat_lt
    have e1 : (c.toNat + 256 * ofLe l) % 256 = c.toNat := by omega
    have e2 : (c.toNat + 256 * ofLe l) / 256 = ofLe l := by omega
    rw [e1, e2, ih]
    simp
theorem ofLe_leB (n k : Nat) (h : n < 256 ^ k) : ofLe (leB n k) = n := by
  induction k generalizing n with
  | zero => simp [leB, ofLe] at h ⊢; omega
  | succ k ih =>
    simp only [leB, ofLe]
    rw [ih (n / 256) (by rw [Nat.pow_succ] at h; omega)]
    simp
    omega
theorem pow256 (k : Nat) : 256 ^ k = 2 ^ (8 * k) := by rw [Nat.pow_mul]
/-- The cells while the bytes are stored one by one. -/
def leCells (n k j : Nat) : List Value := bv (leB n j) ++ List.replicate (k - j) (.int .u8 0)
theorem leCells_length (n k j : Nat) (h : j ≤ k) : (leCells n k j).length = k := by simp [leCells, bv_length, leB_length]; omega
theorem leCells_zero (n k : Nat) : leCells n k 0 = List.replicate k (.int .u8 0) := by simp [leCells, leB, bv]
theorem leCells_full (n k : Nat) : leCells n k k = bv (leB n k) := by simp [leCells]
theorem leCells_at (n k j : Nat) (h : j < k) : (leCells n k j)[j]? = some (.int .u8 0) := by
  rw [leCells, List.getElem?_append_right (by simp [bv_length, leB_length])]
  rw [bv_length, leB_length, Nat.sub_self, List.getElem?_replicate, if_pos (by omega)]
theorem leCells_set (n k j : Nat) (h : j < k) : (leCells n k j).set j (.int .u8 ((UInt8.ofNat (n / 256 ^ j % 256)).toNat : Int)) = leCells n k (j + 1) := by
  unfold leCells
  rw [List.set_append_right _ _ (by simp [bv_length, leB_length]), bv_length, leB_length, Nat.sub_self, leB_snoc, bv_append]
  obtain ⟨r, hr⟩ : ∃ r, k - j = r + 1 := ⟨k - j - 1, by omega⟩
  rw [hr, List.replicate_succ, List.set_cons_zero, show k - (j + 1) = r by omega, List.append_assoc]
  rfl
end Go.Proofs.Ytailbppddnegoaa
