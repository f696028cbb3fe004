/- Layer 1 (bits), plain: bits of turned words, of fields, and a number's width. No program in sight. -/
import Derived.Test.YtailbppddnegoaaW
namespace Go.Proofs.Ytailbppddnegoaa
open Go.RowKit
set_option linter.unusedVariables false
set_option maxRecDepth 100000

/-- A word's bits, turned by k places. -/
def turnN (n k : Nat) : Nat := (n * 2 ^ k % 4294967296) ||| (n / 2 ^ (32 - k))
theorem turnN_lt (n k : Nat) (hn : n < 4294967296) (hk : k < 32) : turnN n k < 4294967296 := by
  unfold turnN
  exact Nat.or_lt_two_pow (n := 32) (Nat.mod_lt _ (by decide)) (Nat.lt_of_le_of_lt (Nat.div_le_self _ _) hn)
theorem turnN_bit (n k i : Nat) (hn : n < 4294967296) (hk : k < 32) (hi : i < 32) : (turnN n k).testBit ((i + k) % 32) = n.testBit i := by
  unfold turnN
  rw [Nat.testBit_or, show (4294967296 : Nat) = 2 ^ 32 from rfl, Nat.testBit_mod_two_pow, Nat.testBit_mul_two_pow, Nat.testBit_div_two_pow]
  by_cases h : i + k < 32
  · rw [Nat.mod_eq_of_lt h]
    have h1 : n.testBit (i + k + (32 - k)) = false := Nat.testBit_lt_two_pow (Nat.lt_of_lt_of_le hn (show 2 ^ 32 ≤ 2 ^ (i + k + (32 - k)) from Nat.pow_le_pow_right (by omega) (by omega)))
    have h2 : i + k - k = i := by omega
    simp [h1, h2, h]
  · have e : (i + k) % 32 = i + k - 32 := by omega
    rw [e]
    have h1 : ¬ k ≤ i + k - 32 := by omega
    have h2 : i + k - 32 + (32 - k) = i := by omega
    simp [h1, h2]
/-- How many bits a number has. -/
def widN (m : Nat) : Nat := if m = 0 then 0 else m.log2 + 1
theorem widN_of (m k : Nat) (h1 : 2 ^ k ≤ m) (h2 : m < 2 ^ (k + 1)) : widN m = k + 1 := by
  have hm : m ≠ 0 := by have := Nat.two_pow_pos k; omega
  unfold widN
  rw [if_neg hm, (Nat.log2_eq_iff hm).2 ⟨h1, h2⟩]
theorem widN_zero : widN 0 = 0 := rfl
theorem widN_mod (m i : Nat) : widN (m % 2 ^ (i + 1)) = if m.testBit i then i + 1 else widN (m % 2 ^ i) := by
  have hm : m % 2 ^ (i + 1) = m % 2 ^ i + 2 ^ i * (m / 2 ^ i % 2) := by rw [Nat.pow_succ, Nat.mod_mul]
  have hb : m.testBit i = decide (m / 2 ^ i % 2 = 1) := by rw [Nat.testBit_eq_decide_div_mod_eq]
  have hlt : m % 2 ^ i < 2 ^ i := Nat.mod_lt _ (Nat.two_pow_pos i)
  rcases Nat.mod_two_eq_zero_or_one (m / 2 ^ i) with h | h
  · rw [hm, hb, h]; simp
  · rw [hm, hb, h]
    simp only [decide_true, if_true, Nat.mul_one]
    exact widN_of _ i (by omega) (by rw [Nat.pow_succ]; omega)
/-- The end of the search by halves: n is what is left of m behind 'out' places, below 2. -/
theorem widN_end (m out r : Nat) (hr : r = m / 2 ^ out) (h2 : r < 2) (h0 : m = 0 → out = 0) (h1 : m ≠ 0 → r ≠ 0) : widN m = out + r := by
  by_cases hm : m = 0
  · subst hm
    have := h0 rfl
    subst this
    simp [widN] at *
    omega
  · have : r = 1 := by have := h1 hm; omega
    subst this
    have hp := Nat.two_pow_pos out
    have e : m / 2 ^ out = 1 := hr.symm
    rw [widN_of m out]
    · have := Nat.div_mul_le_self m (2 ^ out); rw [e] at this; omega
    · have := Nat.lt_div_mul_add hp (a := m); rw [e] at this; rw [Nat.pow_succ]; omega
/-- A field of a number. -/
def fieldN (n p q : Nat) : Nat := n / 2 ^ p % 2 ^ q
theorem fieldN_bit (n p q i : Nat) : (fieldN n p q).testBit i = (decide (i < q) && n.testBit (p + i)) := by
  unfold fieldN
  rw [Nat.testBit_mod_two_pow, Nat.testBit_div_two_pow, Nat.add_comm]
/-- A number with another field. -/
def withN (n p q v : Nat) : Nat := (n &&& (18446744073709551615 - (2 ^ q - 1) * 2 ^ p)) ||| (v * 2 ^ p)
theorem mask_lt (p q : Nat) (hq : q ≤ 64 - p) (hp : p ≤ 63) : (2 ^ q - 1) * 2 ^ p < 18446744073709551616 := by
  have h1 : (2 ^ q - 1) * 2 ^ p < 2 ^ q * 2 ^ p := Nat.mul_lt_mul_of_pos_right (by have := Nat.two_pow_pos q; omega) (Nat.two_pow_pos p)
  rw [← Nat.pow_add] at h1
  exact Nat.lt_of_lt_of_le h1 (show 2 ^ (q + p) ≤ 2 ^ 64 from Nat.pow_le_pow_right (by omega) (by omega))
theorem shl_lt (v p q : Nat) (hv : v < 2 ^ q) (hq : q ≤ 64 - p) (hp : p ≤ 63) : v * 2 ^ p < 18446744073709551616 := by
  have h1 : v * 2 ^ p < 2 ^ q * 2 ^ p := Nat.mul_lt_mul_of_pos_right hv (Nat.two_pow_pos p)
  rw [← Nat.pow_add] at h1
  exact Nat.lt_of_lt_of_le h1 (show 2 ^ (q + p) ≤ 2 ^ 64 from Nat.pow_le_pow_right (by omega) (by omega))
theorem withN_bit (n p q v i : Nat) (hq : q ≤ 64 - p) (hp : p ≤ 63) (hv : v < 2 ^ q) (hi : i < 64) :
    (withN n p q v).testBit i = if p ≤ i ∧ i < p + q then v.testBit (i - p) else n.testBit i := by
  unfold withN
  have hm := mask_lt p q hq hp
  have e : 18446744073709551615 - (2 ^ q - 1) * 2 ^ p = 2 ^ 64 - ((2 ^ q - 1) * 2 ^ p + 1) := by omega
  rw [Nat.testBit_or, Nat.testBit_and, e, Nat.testBit_two_pow_sub_succ (by omega), Nat.testBit_mul_two_pow, Nat.testBit_mul_two_pow, Nat.testBit_two_pow_sub_one]
  by_cases h1 : p ≤ i
  · by_cases h2 : i < p + q
    · rw [if_pos ⟨h1, h2⟩]
      have h3 : i - p < q := by omega
      simp [h1, h3, hi]
    · rw [if_neg (by omega)]
      have h3 : ¬ i - p < q := by omega
      have h4 : v.testBit (i - p) = false := Nat.testBit_lt_two_pow (Nat.lt_of_lt_of_le hv (Nat.pow_le_pow_right (by omega) (by omega)))
      simp [h1, h3, hi, h4]
  · rw [if_neg (by omega)]
    simp [h1, hi]
theorem withN_lt (n p q v : Nat) (hn : n < 18446744073709551616) (hq : q ≤ 64 - p) (hp : p ≤ 63) (hv : v < 2 ^ q) : withN n p q v < 18446744073709551616 := by
  unfold withN
  exact Nat.or_lt_two_pow (n := 64) (Nat.lt_of_le_of_lt Nat.and_le_left hn) (shl_lt v p q hv hq hp)
end Go.Proofs.Ytailbppddnegoaa
