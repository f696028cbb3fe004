/- Layer 1 (bits): the contracts of Number, Turn, Width, Field, With, and of the reference's Number, Bit, Width. -/
import Derived.Test.YtailbppddnegoaaB4
import Derived.Test.YtailbppddnegoaaBN
namespace Go.Proofs.Ytailbppddnegoaa
open Go.RowKit
set_option linter.unusedVariables false
set_option maxRecDepth 100000

theorem turn_bits (n k : Nat) (hn : n < 4294967296) (hk : k < 32) :
    bits .or .u32 ((n : Int) * 2 ^ k % 4294967296) ((n : Int) / 2 ^ (32 - k)) = ((turnN n k : Nat) : Int) := by
  have e1 : ((n : Int) * 2 ^ k % 4294967296) = ((n * 2 ^ k % 4294967296 : Nat) : Int) := by simp
  have e2 : ((n : Int) / 2 ^ (32 - k)) = ((n / 2 ^ (32 - k) : Nat) : Int) := by simp
  rw [e1, e2, u32_or_nat _ _ (Nat.mod_lt _ (by decide)) (Nat.lt_of_le_of_lt (Nat.div_le_self _ _) hn)]
  rfl
theorem and31 (b : Int) (h : -9223372036854775808 ≤ b) (h' : b ≤ 9223372036854775807) : bits .and .i64 b 31 = b % 32 := by
  show IntKind.i64.wrap ((BitVec.ofInt 64 b &&& BitVec.ofInt 64 31).toNat : Int) = _
  have e : (BitVec.ofInt 64 31).toNat = 2 ^ 5 - 1 := rfl
  rw [BitVec.toNat_and, e, Nat.and_two_pow_sub_one_eq_mod, BitVec.toNat_ofInt, IntKind.wrap_i64]
  simp
  omega
theorem or_low (x c j : Nat) (hx : x < 256 ^ j) (hc : c < 256) (hj : j < 8) :
    bits .or .u64 (x : Int) (IntKind.u64.wrap ((c : Int) * 2 ^ (8 * j))) = ((x + c * 256 ^ j : Nat) : Int) := by
  have hp : 256 ^ j * 256 ≤ 2 ^ 64 := by rw [← Nat.pow_succ, show (2 ^ 64 : Nat) = 256 ^ 8 from rfl]; exact Nat.pow_le_pow_right (by omega) (by omega)
  have hc' : c * 256 ^ j < 18446744073709551616 := by
    have : c * 256 ^ j < 256 * 256 ^ j := Nat.mul_lt_mul_of_pos_right hc (Nat.pow_pos (by omega))
    omega
  have e : ((c : Int) * 2 ^ (8 * j)) = ((c * 256 ^ j : Nat) : Int) := by rw [pow256]; simp
  have hx' : x < 18446744073709551616 := by omega
  have ew : IntKind.u64.wrap ((c * 256 ^ j : Nat) : Int) = ((c * 256 ^ j : Nat) : Int) := by rw [IntKind.wrap_u64]; omega
  rw [e, ew, u64_or_nat x (c * 256 ^ j) hx' hc']
  congr 1
  rw [Nat.or_comm, Nat.add_comm]
  exact nat_join (8 * j) _ _ (by rw [pow256]; simp) (by rw [← pow256]; exact hx)
theorem ofLe_take (l : List UInt8) (j : Nat) (h : j < l.length) : ofLe (l.take (j + 1)) = ofLe (l.take j) + (l.getD j 0).toNat * 256 ^ j := by
  rw [List.take_succ_eq_append_getElem h, ofLe_append]
  simp only [List.length_take, ofLe, Nat.mul_zero, Nat.add_zero]
  rw [Nat.min_eq_left (by omega), Nat.mul_comm]
  simp [List.getD, List.getElem?_eq_getElem h]
theorem ofLe_drop (l : List UInt8) (j : Nat) (h : j < l.length) : ofLe (l.drop j) = ofLe (l.drop (j + 1)) * 256 + (l.getD j 0).toNat := by
  rw [List.drop_eq_getElem_cons h]
  simp only [ofLe]
  simp [List.getD, List.getElem?_eq_getElem h]
  omega
theorem wid_step (m o s k : Nat) (hs : s = 2 ^ k) (hlt : m / 2 ^ o < 2 ^ (2 ^ (k + 1))) :
    m / 2 ^ (o + s) = m / 2 ^ o / 2 ^ s ∧ m / 2 ^ (o + s) < 2 ^ (2 ^ k) ∧ (m / 2 ^ o / 2 ^ s = 0 → m / 2 ^ o < 2 ^ (2 ^ k)) := by
  have e : m / 2 ^ (o + s) = m / 2 ^ o / 2 ^ s := by rw [Nat.pow_add, Nat.div_div_eq_div_mul]
  subst hs
  have hp : 2 ^ (2 ^ (k + 1)) = 2 ^ (2 ^ k) * 2 ^ (2 ^ k) := by rw [← Nat.pow_add, Nat.pow_succ, Nat.mul_two]
  refine ⟨e, ?_, fun h => ?_⟩
  · rw [e, Nat.div_lt_iff_lt_mul (Nat.two_pow_pos _), ← hp]; exact hlt
  · rcases Nat.div_eq_zero_iff.1 h with h | h
    · have := Nat.two_pow_pos (2 ^ k); omega
    · exact h
end Go.Proofs.Ytailbppddnegoaa
