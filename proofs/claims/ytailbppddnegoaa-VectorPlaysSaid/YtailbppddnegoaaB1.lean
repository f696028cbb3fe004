/- Layer 1 (bits): the contracts of Fold, Unfold, the reference's Fold, room. -/
import Derived.Test.YtailbppddnegoaaW
import Derived.Test.YtailbppddnegoaaRows
import Derived.Lib.Zigzag
namespace Go.Proofs.Ytailbppddnegoaa
open Go.RowKit
set_option linter.unusedVariables false
set_option maxRecDepth 100000

/-- The fold of a whole number. -/
def foldI (n : Int) : Int := if 0 ≤ n then n * 2 else -(n + 1) * 2 + 1
theorem foldI_nn (n : Int) : 0 ≤ foldI n := by unfold foldI; split <;> omega
theorem foldI_lt (n : Int) (h : -9223372036854775808 ≤ n) (h' : n ≤ 9223372036854775807) : foldI n < 18446744073709551616 := by unfold foldI; split <;> omega
def unfoldI (n : Int) : Int := if n % 2 = 0 then n / 2 else -(n / 2) - 1
theorem unfoldI_ge (n : Int) (h : 0 ≤ n) (h' : n < 18446744073709551616) : -9223372036854775808 ≤ unfoldI n := by unfold unfoldI; split <;> omega
theorem unfoldI_le (n : Int) (h : 0 ≤ n) (h' : n < 18446744073709551616) : unfoldI n ≤ 9223372036854775807 := by unfold unfoldI; split <;> omega
theorem unfold_fold (n : Int) : unfoldI (foldI n) = n := by unfold unfoldI foldI; split <;> split <;> omega
theorem fold_unfold (n : Int) (h : 0 ≤ n) : foldI (unfoldI n) = n := by unfold unfoldI foldI; split <;> split <;> omega

theorem xor_u64_ones (b : Nat) (hb : b < 18446744073709551616) : bits .xor .u64 (b : Int) 18446744073709551615 = 18446744073709551615 - (b : Int) := by
  have h := u64_xor_nat b 18446744073709551615 hb (by omega)
  have e : b ^^^ 18446744073709551615 = 18446744073709551615 - b := by rw [Nat.xor_comm]; exact Lib.xor_ones64 b hb
  rw [e] at h
  rw [show ((18446744073709551615 : Int)) = ((18446744073709551615 : Nat) : Int) from rfl, h]
  omega

theorem fold_bits (n : Int) (h : -9223372036854775808 ≤ n) (h' : n ≤ 9223372036854775807) :
    bits .xor .u64 (IntKind.u64.wrap (IntKind.u64.wrap n * 2)) (IntKind.u64.wrap (n / 9223372036854775808)) = foldI n := by
  simp only [IntKind.wrap_u64]
  unfold foldI
  by_cases h0 : 0 ≤ n
  · rw [if_pos h0]
    have e1 : n % 18446744073709551616 * 2 % 18446744073709551616 = n * 2 := by omega
    have e2 : n / 9223372036854775808 % 18446744073709551616 = 0 := by omega
    rw [e1, e2, u64_xor (n * 2) 0 (by omega) (by omega) (by omega) (by omega)]
    simp; omega
  · rw [if_neg h0]
    have e1 : n % 18446744073709551616 * 2 % 18446744073709551616 = n * 2 + 18446744073709551616 := by omega
    have e2 : n / 9223372036854775808 % 18446744073709551616 = 18446744073709551615 := by omega
    obtain ⟨m, hm⟩ := Int.eq_ofNat_of_zero_le (show 0 ≤ n * 2 + 18446744073709551616 by omega)
    rw [e1, e2, hm, xor_u64_ones m (by omega)]
    omega

theorem bits_xor_comm (k : IntKind) (a b : Int) : bits .xor k a b = bits .xor k b a := by
  show k.wrap ((BitVec.ofInt k.bits a ^^^ BitVec.ofInt k.bits b).toNat : Int) = k.wrap ((BitVec.ofInt k.bits b ^^^ BitVec.ofInt k.bits a).toNat : Int)
  rw [BitVec.xor_comm]
theorem xor_i64_zero (a : Nat) (h : a < 9223372036854775808) : bits .xor .i64 (a : Int) 0 = (a : Int) := by
  show IntKind.i64.wrap ((BitVec.ofInt 64 (a : Int) ^^^ BitVec.ofInt 64 (0 : Int)).toNat : Int) = _
  have e : BitVec.ofInt 64 (0 : Int) = 0#64 := rfl
  rw [e, BitVec.xor_zero, ofInt_u64 a (by omega), IntKind.wrap_i64]
  omega

theorem unfold_bits (n : Int) (h : 0 ≤ n) (h' : n < 18446744073709551616) :
    bits .xor .i64 (n / 2) (wrap64 (-wrap64 (bits .and .u64 n 1))) = unfoldI n := by
  rw [Lib.u64_and1 n h h']
  unfold unfoldI
  obtain ⟨m, hm⟩ := Int.eq_ofNat_of_zero_le (show 0 ≤ n / 2 by omega)
  by_cases h0 : n % 2 = 0
  · rw [if_pos h0, h0, hm, show wrap64 (-wrap64 0) = 0 by unfold wrap64; omega]
    exact xor_i64_zero m (by omega)
  · rw [if_neg h0, show n % 2 = 1 by omega, hm, show wrap64 (-wrap64 1) = -1 by unfold wrap64; omega, bits_xor_comm]
    have := Lib.i64_not m (by omega)
    exact this

/-- Has a number room in so many bits? -/
def roomB (n : Nat) (k : Nat) : Bool := decide (64 ≤ k) || decide (n / 2 ^ k = 0)
theorem roomB_iff (n k : Nat) (hn : n < 18446744073709551616) : roomB n k = true ↔ n < 2 ^ k := by
  unfold roomB
  have hp : 0 < 2 ^ k := Nat.two_pow_pos k
  rw [Bool.or_eq_true, decide_eq_true_eq, decide_eq_true_eq, Nat.div_eq_zero_iff]
  constructor
  · rintro (h | h | h)
    · exact Nat.lt_of_lt_of_le hn (Nat.pow_le_pow_right (n := 2) (by omega) h)
    · omega
    · exact h
  · intro h; exact .inr (.inr h)
theorem room_bool (n k : Nat) : (decide ((64 : Int) ≤ (k : Int)) || ((n : Int) / 2 ^ k == 0)) = roomB n k := by
  unfold roomB
  have e : ((n : Int) / 2 ^ k) = ((n / 2 ^ k : Nat) : Int) := by simp
  rw [e]
  have e2 : (((n / 2 ^ k : Nat) : Int) == 0) = decide (n / 2 ^ k = 0) := by
    generalize n / 2 ^ k = m
    by_cases hm : m = 0 <;> simp [hm]
  rw [e2]
  congr 1
  by_cases hk : 64 ≤ k
  · simp [hk]; omega
  · simp [hk]; omega
end Go.Proofs.Ytailbppddnegoaa
