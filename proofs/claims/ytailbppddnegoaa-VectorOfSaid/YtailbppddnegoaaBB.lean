/- Merged: BM, BN, B1, B2, B3, B4, B5. -/
import Derived.Test.YtailbppddnegoaaWW
import Derived.Test.YtailbppddnegoaaRows
import Derived.Lib.Zigzag
import Derived.Deep.QuietTactic
import Derived.BigQuiet
import Derived.Deep.LoopGhost
import Derived.BigRegion
import Derived.RegionTactic
/- Layer 1 (bits), plain: a number's bytes. No program in sight. -/
namespace Go.Proofs.Ytailbppddnegoaa
open Go.RowKit
set_option linter.unusedVariables false
set_option maxRecDepth 100000

/-- A number's k lowest bytes, the lowest first. -/
def leB : Nat → Nat → List UInt8
  | _, 0 => []
  | n, k + 1 => UInt8.ofNat (n % 256) :: leB (n / 256) k
theorem leB_length (n k : Nat) : (leB n k).length = k := by
  induction k generalizing n with
  | zero => rfl
  | succ k ih => simp [leB, ih]
theorem leB_snoc (n k : Nat) : leB n (k + 1) = leB n k ++ [UInt8.ofNat (n / 256 ^ k % 256)] := by
  induction k generalizing n with
  | zero => simp [leB]
  | succ k ih =>
    rw [leB, ih (n / 256)]
    simp only [leB, List.cons_append]
    rw [Nat.div_div_eq_div_mul, Nat.pow_succ, Nat.mul_comm]
/-- The number of bytes. -/
def ofLe : List UInt8 → Nat
  | [] => 0
  | c :: l => c.toNat + 256 * ofLe l
theorem ofLe_lt (l : List UInt8) : ofLe l < 256 ^ l.length := by
  induction l with
  | nil => simp [ofLe]
  | cons c l ih =>
    simp only [ofLe, List.length_cons, Nat.pow_succ]
    have := c.toNat_lt
    omega
theorem ofLe_append (l m : List UInt8) : ofLe (l ++ m) = ofLe l + 256 ^ l.length * ofLe m := by
  induction l with
  | nil => simp [ofLe]
  | cons c l ih =>
    simp only [List.cons_append, ofLe, ih, List.length_cons, Nat.pow_succ]
    rw [Nat.mul_add, ← Nat.mul_assoc, Nat.mul_comm 256 (256 ^ l.length)]
    omega
theorem leB_ofLe (l : List UInt8) : leB (ofLe l) l.length = l := by
  induction l with
  | nil => rfl
  | cons c l ih =>
    simp only [ofLe, List.length_cons, leB]
    have := c.toNat_lt
    have e1 : (c.toNat + 256 * ofLe l) % 256 = c.toNat := by omega
    have e2 : (c.toNat + 256 * ofLe l) / 256 = ofLe l := by omega
    rw [e1, e2, ih]
    simp
theorem ofLe_leB (n k : Nat) (h : n < 256 ^ k) : ofLe (leB n k) = n := by
  induction k generalizing n with
  | zero => simp [leB, ofLe] at h ⊢; omega
  | succ k ih =>
    simp only [leB, ofLe]
    rw [ih (n / 256) (by rw [Nat.pow_succ] at h; omega)]
    simp
    omega
theorem pow256 (k : Nat) : 256 ^ k = 2 ^ (8 * k) := by rw [Nat.pow_mul]
/-- The cells while the bytes are stored one by one. -/
def leCells (n k j : Nat) : List Value := bv (leB n j) ++ List.replicate (k - j) (.int .u8 0)
theorem leCells_length (n k j : Nat) (h : j ≤ k) : (leCells n k j).length = k := by simp [leCells, bv_length, leB_length]; omega
theorem leCells_zero (n k : Nat) : leCells n k 0 = List.replicate k (.int .u8 0) := by simp [leCells, leB, bv]
theorem leCells_full (n k : Nat) : leCells n k k = bv (leB n k) := by simp [leCells]
theorem leCells_at (n k j : Nat) (h : j < k) : (leCells n k j)[j]? = some (.int .u8 0) := by
  rw [leCells, List.getElem?_append_right (by simp [bv_length, leB_length])]
  rw [bv_length, leB_length, Nat.sub_self, List.getElem?_replicate, if_pos (by omega)]
theorem leCells_set (n k j : Nat) (h : j < k) : (leCells n k j).set j (.int .u8 ((UInt8.ofNat (n / 256 ^ j % 256)).toNat : Int)) = leCells n k (j + 1) := by
  unfold leCells
  rw [List.set_append_right _ _ (by simp [bv_length, leB_length]), bv_length, leB_length, Nat.sub_self, leB_snoc, bv_append]
  obtain ⟨r, hr⟩ : ∃ r, k - j = r + 1 := ⟨k - j - 1, by omega⟩
  rw [hr, List.replicate_succ, List.set_cons_zero, show k - (j + 1) = r by omega, List.append_assoc]
  rfl
end Go.Proofs.Ytailbppddnegoaa
/- Layer 1 (bits), plain: bits of turned words, of fields, and a number's width. No program in sight. -/
namespace Go.Proofs.Ytailbppddnegoaa
open Go.RowKit
set_option linter.unusedVariables false
set_option maxRecDepth 100000

/-- A word's bits, turned by k places. -/
def turnN (n k : Nat) : Nat := (n * 2 ^ k % 4294967296) ||| (n / 2 ^ (32 - k))
theorem turnN_lt (n k : Nat) (hn : n < 4294967296) (hk : k < 32) : turnN n k < 4294967296 := by
  unfold turnN
  exact Nat.or_lt_two_pow (n := 32) (Nat.mod_lt _ (by decide)) (Nat.lt_of_le_of_lt (Nat.div_le_self _ _) hn)
theorem turnN_bit (n k i : Nat) (hn : n < 4294967296) (hk : k < 32) (hi : i < 32) : (turnN n k).testBit ((i + k) % 32) = n.testBit i := by
  unfold turnN
  rw [Nat.testBit_or, show (4294967296 : Nat) = 2 ^ 32 from rfl, Nat.testBit_mod_two_pow, Nat.testBit_mul_two_pow, Nat.testBit_div_two_pow]
  by_cases h : i + k < 32
  · rw [Nat.mod_eq_of_lt h]
    have h1 : n.testBit (i + k + (32 - k)) = false := Nat.testBit_lt_two_pow (Nat.lt_of_lt_of_le hn (show 2 ^ 32 ≤ 2 ^ (i + k + (32 - k)) from Nat.pow_le_pow_right (by omega) (by omega)))
    have h2 : i + k - k = i := by omega
    simp [h1, h2, h]
  · have e : (i + k) % 32 = i + k - 32 := by omega
    rw [e]
    have h1 : ¬ k ≤ i + k - 32 := by omega
    have h2 : i + k - 32 + (32 - k) = i := by omega
    simp [h1, h2]
/-- How many bits a number has. -/
def widN (m : Nat) : Nat := if m = 0 then 0 else m.log2 + 1
theorem widN_of (m k : Nat) (h1 : 2 ^ k ≤ m) (h2 : m < 2 ^ (k + 1)) : widN m = k + 1 := by
  have hm : m ≠ 0 := by have := Nat.two_pow_pos k; omega
  unfold widN
  rw [if_neg hm, (Nat.log2_eq_iff hm).2 ⟨h1, h2⟩]
theorem widN_zero : widN 0 = 0 := rfl
theorem widN_mod (m i : Nat) : widN (m % 2 ^ (i + 1)) = if m.testBit i then i + 1 else widN (m % 2 ^ i) := by
  have hm : m % 2 ^ (i + 1) = m % 2 ^ i + 2 ^ i * (m / 2 ^ i % 2) := by rw [Nat.pow_succ, Nat.mod_mul]
  have hb : m.testBit i = decide (m / 2 ^ i % 2 = 1) := by rw [Nat.testBit_eq_decide_div_mod_eq]
  have hlt : m % 2 ^ i < 2 ^ i := Nat.mod_lt _ (Nat.two_pow_pos i)
  rcases Nat.mod_two_eq_zero_or_one (m / 2 ^ i) with h | h
  · rw [hm, hb, h]; simp
  · rw [hm, hb, h]
    simp only [decide_true, if_true, Nat.mul_one]
    exact widN_of _ i (by omega) (by rw [Nat.pow_succ]; omega)
/-- The end of the search by halves: n is what is left of m behind 'out' places, below 2. -/
theorem widN_end (m out r : Nat) (hr : r = m / 2 ^ out) (h2 : r < 2) (h0 : m = 0 → out = 0) (h1 : m ≠ 0 → r ≠ 0) : widN m = out + r := by
  by_cases hm : m = 0
  · subst hm
    have := h0 rfl
    subst this
    simp [widN] at *
    omega
  · have : r = 1 := by have := h1 hm; omega
    subst this
    have hp := Nat.two_pow_pos out
    have e : m / 2 ^ out = 1 := hr.symm
    rw [widN_of m out]
    · have := Nat.div_mul_le_self m (2 ^ out); rw [e] at this; omega
    · have := Nat.lt_div_mul_add hp (a := m); rw [e] at this; rw [Nat.pow_succ]; omega
/-- A field of a number. -/
def fieldN (n p q : Nat) : Nat := n / 2 ^ p % 2 ^ q
theorem fieldN_bit (n p q i : Nat) : (fieldN n p q).testBit i = (decide (i < q) && n.testBit (p + i)) := by
  unfold fieldN
  rw [Nat.testBit_mod_two_pow, Nat.testBit_div_two_pow, Nat.add_comm]
/-- A number with another field. -/
def withN (n p q v : Nat) : Nat := (n &&& (18446744073709551615 - (2 ^ q - 1) * 2 ^ p)) ||| (v * 2 ^ p)
theorem mask_lt (p q : Nat) (hq : q ≤ 64 - p) (hp : p ≤ 63) : (2 ^ q - 1) * 2 ^ p < 18446744073709551616 := by
  have h1 : (2 ^ q - 1) * 2 ^ p < 2 ^ q * 2 ^ p := Nat.mul_lt_mul_of_pos_right (by have := Nat.two_pow_pos q; omega) (Nat.two_pow_pos p)
  rw [← Nat.pow_add] at h1
  exact Nat.lt_of_lt_of_le h1 (show 2 ^ (q + p) ≤ 2 ^ 64 from Nat.pow_le_pow_right (by omega) (by omega))
theorem shl_lt (v p q : Nat) (hv : v < 2 ^ q) (hq : q ≤ 64 - p) (hp : p ≤ 63) : v * 2 ^ p < 18446744073709551616 := by
  have h1 : v * 2 ^ p < 2 ^ q * 2 ^ p := Nat.mul_lt_mul_of_pos_right hv (Nat.two_pow_pos p)
  rw [← Nat.pow_add] at h1
  exact Nat.lt_of_lt_of_le h1 (show 2 ^ (q + p) ≤ 2 ^ 64 from Nat.pow_le_pow_right (by omega) (by omega))
theorem withN_bit (n p q v i : Nat) (hq : q ≤ 64 - p) (hp : p ≤ 63) (hv : v < 2 ^ q) (hi : i < 64) :
    (withN n p q v).testBit i = if p ≤ i ∧ i < p + q then v.testBit (i - p) else n.testBit i := by
  unfold withN
  have hm := mask_lt p q hq hp
  have e : 18446744073709551615 - (2 ^ q - 1) * 2 ^ p = 2 ^ 64 - ((2 ^ q - 1) * 2 ^ p + 1) := by omega
  rw [Nat.testBit_or, Nat.testBit_and, e, Nat.testBit_two_pow_sub_succ (by omega), Nat.testBit_mul_two_pow, Nat.testBit_mul_two_pow, Nat.testBit_two_pow_sub_one]
  by_cases h1 : p ≤ i
  · by_cases h2 : i < p + q
    · rw [if_pos ⟨h1, h2⟩]
      have h3 : i - p < q := by omega
      simp [h1, h3, hi]
    · rw [if_neg (by omega)]
      have h3 : ¬ i - p < q := by omega
      have h4 : v.testBit (i - p) = false := Nat.testBit_lt_two_pow (Nat.lt_of_lt_of_le hv (Nat.pow_le_pow_right (by omega) (by omega)))
      simp [h1, h3, hi, h4]
  · rw [if_neg (by omega)]
    simp [h1, hi]
theorem withN_lt (n p q v : Nat) (hn : n < 18446744073709551616) (hq : q ≤ 64 - p) (hp : p ≤ 63) (hv : v < 2 ^ q) : withN n p q v < 18446744073709551616 := by
  unfold withN
  exact Nat.or_lt_two_pow (n := 64) (Nat.lt_of_le_of_lt Nat.and_le_left hn) (shl_lt v p q hv hq hp)
end Go.Proofs.Ytailbppddnegoaa
/- Layer 1 (bits): the contracts of Fold, Unfold, the reference's Fold, room. -/
namespace Go.Proofs.Ytailbppddnegoaa
open Go.RowKit
set_option linter.unusedVariables false
set_option maxRecDepth 100000

/-- The fold of a whole number. -/
def foldI (n : Int) : Int := if 0 ≤ n then n * 2 else -(n + 1) * 2 + 1
theorem foldI_nn (n : Int) : 0 ≤ foldI n := by unfold foldI; split <;> omega
theorem foldI_lt (n : Int) (h : -9223372036854775808 ≤ n) (h' : n ≤ 9223372036854775807) : foldI n < 18446744073709551616 := by unfold foldI; split <;> omega
def unfoldI (n : Int) : Int := if n % 2 = 0 then n / 2 else -(n / 2) - 1
theorem unfoldI_ge (n : Int) (h : 0 ≤ n) (h' : n < 18446744073709551616) : -9223372036854775808 ≤ unfoldI n := by unfold unfoldI; split <;> omega
theorem unfoldI_le (n : Int) (h : 0 ≤ n) (h' : n < 18446744073709551616) : unfoldI n ≤ 9223372036854775807 := by unfold unfoldI; split <;> omega
theorem unfold_fold (n : Int) : unfoldI (foldI n) = n := by unfold unfoldI foldI; split <;> split <;> omega
theorem fold_unfold (n : Int) (h : 0 ≤ n) : foldI (unfoldI n) = n := by unfold unfoldI foldI; split <;> split <;> omega

theorem xor_u64_ones (b : Nat) (hb : b < 18446744073709551616) : bits .xor .u64 (b : Int) 18446744073709551615 = 18446744073709551615 - (b : Int) := by
  have h := u64_xor_nat b 18446744073709551615 hb (by omega)
  have e : b ^^^ 18446744073709551615 = 18446744073709551615 - b := by rw [Nat.xor_comm]; exact Lib.xor_ones64 b hb
  rw [e] at h
  rw [show ((18446744073709551615 : Int)) = ((18446744073709551615 : Nat) : Int) from rfl, h]
  omega

theorem fold_bits (n : Int) (h : -9223372036854775808 ≤ n) (h' : n ≤ 9223372036854775807) :
    bits .xor .u64 (IntKind.u64.wrap (IntKind.u64.wrap n * 2)) (IntKind.u64.wrap (n / 9223372036854775808)) = foldI n := by
  simp only [IntKind.wrap_u64]
  unfold foldI
  by_cases h0 : 0 ≤ n
  · rw [if_pos h0]
    have e1 : n % 18446744073709551616 * 2 % 18446744073709551616 = n * 2 := by omega
    have e2 : n / 9223372036854775808 % 18446744073709551616 = 0 := by omega
    rw [e1, e2, u64_xor (n * 2) 0 (by omega) (by omega) (by omega) (by omega)]
    simp; omega
  · rw [if_neg h0]
    have e1 : n % 18446744073709551616 * 2 % 18446744073709551616 = n * 2 + 18446744073709551616 := by omega
    have e2 : n / 9223372036854775808 % 18446744073709551616 = 18446744073709551615 := by omega
    obtain ⟨m, hm⟩ := Int.eq_ofNat_of_zero_le (show 0 ≤ n * 2 + 18446744073709551616 by omega)
    rw [e1, e2, hm, xor_u64_ones m (by omega)]
    omega

theorem bits_xor_comm (k : IntKind) (a b : Int) : bits .xor k a b = bits .xor k b a := by
  show k.wrap ((BitVec.ofInt k.bits a ^^^ BitVec.ofInt k.bits b).toNat : Int) = k.wrap ((BitVec.ofInt k.bits b ^^^ BitVec.ofInt k.bits a).toNat : Int)
  rw [BitVec.xor_comm]
theorem xor_i64_zero (a : Nat) (h : a < 9223372036854775808) : bits .xor .i64 (a : Int) 0 = (a : Int) := by
  show IntKind.i64.wrap ((BitVec.ofInt 64 (a : Int) ^^^ BitVec.ofInt 64 (0 : Int)).toNat : Int) = _
  have e : BitVec.ofInt 64 (0 : Int) = 0#64 := rfl
  rw [e, BitVec.xor_zero, ofInt_u64 a (by omega), IntKind.wrap_i64]
  omega

theorem unfold_bits (n : Int) (h : 0 ≤ n) (h' : n < 18446744073709551616) :
    bits .xor .i64 (n / 2) (wrap64 (-wrap64 (bits .and .u64 n 1))) = unfoldI n := by
  rw [Lib.u64_and1 n h h']
  unfold unfoldI
  obtain ⟨m, hm⟩ := Int.eq_ofNat_of_zero_le (show 0 ≤ n / 2 by omega)
  by_cases h0 : n % 2 = 0
  · rw [if_pos h0, h0, hm, show wrap64 (-wrap64 0) = 0 by unfold wrap64; omega]
    exact xor_i64_zero m (by omega)
  · rw [if_neg h0, show n % 2 = 1 by omega, hm, show wrap64 (-wrap64 1) = -1 by unfold wrap64; omega, bits_xor_comm]
    have := Lib.i64_not m (by omega)
    exact this

/-- Has a number room in so many bits? -/
def roomB (n : Nat) (k : Nat) : Bool := decide (64 ≤ k) || decide (n / 2 ^ k = 0)
theorem roomB_iff (n k : Nat) (hn : n < 18446744073709551616) : roomB n k = true ↔ n < 2 ^ k := by
  unfold roomB
  have hp : 0 < 2 ^ k := Nat.two_pow_pos k
  rw [Bool.or_eq_true, decide_eq_true_eq, decide_eq_true_eq, Nat.div_eq_zero_iff]
  constructor
  · rintro (h | h | h)
    · exact Nat.lt_of_lt_of_le hn (Nat.pow_le_pow_right (n := 2) (by omega) h)
    · omega
    · exact h
  · intro h; exact .inr (.inr h)
theorem room_bool (n k : Nat) : (decide ((64 : Int) ≤ (k : Int)) || ((n : Int) / 2 ^ k == 0)) = roomB n k := by
  unfold roomB
  have e : ((n : Int) / 2 ^ k) = ((n / 2 ^ k : Nat) : Int) := by simp
  rw [e]
  have e2 : (((n / 2 ^ k : Nat) : Int) == 0) = decide (n / 2 ^ k = 0) := by
    generalize n / 2 ^ k = m
    by_cases hm : m = 0 <;> simp [hm]
  rw [e2]
  congr 1
  by_cases hk : 64 ≤ k
  · simp [hk]; omega
  · simp [hk]; omega
end Go.Proofs.Ytailbppddnegoaa
/- Layer 1 (bits): the contracts of Bytes and High and of the reference's Room, Bytes, SameBytes; awake. -/
namespace Go.Proofs.Ytailbppddnegoaa
open Go.RowKit
set_option linter.unusedVariables false
set_option maxRecDepth 100000

theorem Try.info_u8 : (Try.prog.info? 5).map (fun i => (i.zero, i.size, i.bytes)) = some (some (.int .u8 0), 1, 1) := by kernel_rfl

/-- A new slice of bytes beside a number that says the error. -/
def NewBytes2 (w : World) (l : List UInt8) (er : Int) (e : Ending) (w' : World) : Prop :=
  ∃ A c, e = .returned (.tuple #[.slice A l.length c, .int .i64 er]) ∧ Own w' w.heap.size 5 1 A l.length c (bv l) ∧ Below w.heap.size w w'

theorem wrap_byte (n k : Nat) (h : k < 8) : (n : Int) / 2 ^ (8 * k) % 256 = ((UInt8.ofNat (n / 256 ^ k % 256)).toNat : Int) := by
  have e : ((n : Int) / 2 ^ (8 * k)) = ((n / 256 ^ k : Nat) : Int) := by rw [pow256]; simp
  rw [e]
  simp
end Go.Proofs.Ytailbppddnegoaa
/- Layer 1 (bits): the contracts of the reference's Power, Room, Bytes, SameBytes; of High; awake. -/
namespace Go.Proofs.Ytailbppddnegoaa
open Go.RowKit
set_option linter.unusedVariables false
set_option maxRecDepth 100000

def NewBytes (w : World) (l : List UInt8) (e : Ending) (w' : World) : Prop :=
  ∃ A c, e = .returned (.slice A l.length c) ∧ Own w' w.heap.size 5 1 A l.length c (bv l) ∧ Below w.heap.size w w'

theorem leB_step (n k j : Nat) : leB n (j + 1) = leB n j ++ [UInt8.ofNat (n / 256 ^ j % 256)] := leB_snoc n j
theorem quot_step (n j : Nat) : n / 256 ^ (j + 1) = n / 256 ^ j / 256 := by rw [Nat.pow_succ, Nat.div_div_eq_div_mul]
set_option maxHeartbeats 400000 in
theorem same_any (l : List UInt8) (A A' : Option Addr) (n m c c' B : Nat) (w : World) (hl : n ≤ 9223372036854775807) (h1 : Rd w B 1 A n (bv l)) (h2 : Rd w B 1 A' m (bv l)) (hB : B ≤ w.heap.size) :
    Calls Try.prog 59 #[.slice A n c, .slice A' m c'] w fun e w' => e = .returned (.bool true) ∧ Below w.heap.size w w' := by
  have e1 := h1.len
  have e2 := h2.len
  rw [e1] at e2
  subst e2
  have hne : ((n : Int) != (n : Int)) = false := by simp
  go_enter Try.func59, Try.ntmps59
  go_wp2
  go_loopw [5] (fun i wr => ∃ j : Nat, j ≤ n ∧ i = .int .i64 j ∧ Below w.heap.size w wr) (fun i _ => n - (intOf i).toNat)
  case atStart => exact ⟨0, Nat.zero_le _, rfl, Below.refl _ _⟩
  case round =>
    obtain ⟨j, hj, rfl, hb⟩ := hrel
    by_cases hlt : j < n
    · obtain ⟨b, o, rfl, hb1, hc1⟩ := ((h1.more hB).below hb).byte hlt
      obtain ⟨b', o', rfl, hb2, hc2⟩ := ((h2.more hB).below hb).byte hlt
      have hx := (l.getD j 0).toNat_lt
      generalize (l.getD j 0).toNat = x at *
      have hxx : ((x : Int) != (x : Int)) = false := by simp
      go_wp2
      go_quiet (fail)
      go_wp2
      go_roundw
      case rel => exact ⟨j + 1, by omega, by go_num, below_drewN hb _⟩
      case measure => simp [intOf]; omega
    · go_wp2
      go_ret
      exact ⟨rfl, hb⟩
end Go.Proofs.Ytailbppddnegoaa
/- Layer 1 (bits): slices.Reverse over a slice of the call's own; High; awake. -/
namespace Go.Proofs.Ytailbppddnegoaa
open Go.RowKit
set_option linter.unusedVariables false
set_option maxRecDepth 100000

/-- The list while it is reversed: i pairs are exchanged. -/
def rvL (l : List UInt8) (i : Nat) : List UInt8 := (List.range l.length).map fun p => if p < i ∨ l.length ≤ p + i then l.getD (l.length - 1 - p) 0 else l.getD p 0
theorem rvL_length (l : List UInt8) (i : Nat) : (rvL l i).length = l.length := by simp [rvL]
theorem rvL_get (l : List UInt8) (i p : Nat) (h : p < l.length) : (rvL l i)[p]? = some (if p < i ∨ l.length ≤ p + i then l.getD (l.length - 1 - p) 0 else l.getD p 0) := by
  simp [rvL, List.getElem?_range h]
theorem getD_of {l : List UInt8} {p : Nat} (h : p < l.length) : l[p]? = some (l.getD p 0) := by simp [List.getD, List.getElem?_eq_getElem h]
theorem rvL_zero (l : List UInt8) : rvL l 0 = l := by
  apply List.ext_getElem?
  intro p
  by_cases h : p < l.length
  · rw [rvL_get l 0 p h, if_neg (by omega), getD_of h]
  · rw [List.getElem?_eq_none (by rw [rvL_length]; omega), List.getElem?_eq_none (by omega)]
theorem rvL_end (l : List UInt8) (i : Nat) (h : l.length ≤ 2 * i + 1) : rvL l i = l.reverse := by
  apply List.ext_getElem?
  intro p
  by_cases hp : p < l.length
  · rw [rvL_get l i p hp, List.getElem?_reverse hp, getD_of (by omega)]
    by_cases hc : p < i ∨ l.length ≤ p + i
    · rw [if_pos hc]
    · rw [if_neg hc]
      have : p = l.length - 1 - p := by omega
      rw [← this]
  · rw [List.getElem?_eq_none (by rw [rvL_length]; omega), List.getElem?_eq_none (by simp; omega)]
theorem rvL_step (l : List UInt8) (i : Nat) (h : i < l.length - 1 - i) :
    ((rvL l i).set i (l.getD (l.length - 1 - i) 0)).set (l.length - 1 - i) (l.getD i 0) = rvL l (i + 1) := by
  apply List.ext_getElem?
  intro p
  by_cases hp : p < l.length
  · rw [rvL_get l (i + 1) p hp, List.getElem?_set, List.getElem?_set]
    simp only [List.length_set, rvL_length]
    by_cases h1 : l.length - 1 - i = p
    · rw [if_pos h1, if_pos (by omega), if_pos (by omega)]
      congr 2
      omega
    · rw [if_neg h1]
      by_cases h2 : i = p
      · subst h2
        rw [if_pos rfl, if_pos (by omega), if_pos (by omega)]
      · rw [if_neg h2, rvL_get l i p hp]
        by_cases hc : p < i ∨ l.length ≤ p + i
        · rw [if_pos hc, if_pos (by omega)]
        · rw [if_neg hc, if_neg (by omega)]
  · rw [List.getElem?_eq_none (by simp [rvL_length]; omega), List.getElem?_eq_none (by rw [rvL_length]; omega)]
theorem bv_set (l : List UInt8) (i : Nat) (c : UInt8) : bv (l.set i c) = (bv l).set i (.int .u8 (c.toNat : Int)) := by simp [bv, List.map_set]

/-- Below 'base' nothing has turned; the slice holds other bytes. -/
def Turned (w : World) (base : Nat) (A : Option Addr) (n c : Nat) (l : List UInt8) (e : Ending) (w' : World) : Prop :=
  e = .returned (.tuple #[]) ∧ Own w' base 5 1 A n c (bv l) ∧ Below base w w'
theorem own_form {w : World} {base n c : Nat} {e : TypeId} {A : Option Addr} {xs : List Value} (h : Own w base e 1 A n c xs) (hn : 0 < n) :
    ∃ g, A = some ⟨g, 0, none⟩ ∧ base ≤ g ∧ g < w.heap.size := by
  rcases h.1.2 with ⟨_, rfl⟩ | ⟨g, cap, cur, hv, h1, h2, _⟩
  · omega
  · injection hv with hA
    subst hA
    exact ⟨g, rfl, h1, (h.1.lt g rfl).2⟩
end Go.Proofs.Ytailbppddnegoaa
/- Layer 1 (bits): the contracts of Number, Turn, Width, Field, With, and of the reference's Number, Bit, Width. -/
namespace Go.Proofs.Ytailbppddnegoaa
open Go.RowKit
set_option linter.unusedVariables false
set_option maxRecDepth 100000

theorem turn_bits (n k : Nat) (hn : n < 4294967296) (hk : k < 32) :
    bits .or .u32 ((n : Int) * 2 ^ k % 4294967296) ((n : Int) / 2 ^ (32 - k)) = ((turnN n k : Nat) : Int) := by
  have e1 : ((n : Int) * 2 ^ k % 4294967296) = ((n * 2 ^ k % 4294967296 : Nat) : Int) := by simp
  have e2 : ((n : Int) / 2 ^ (32 - k)) = ((n / 2 ^ (32 - k) : Nat) : Int) := by simp
  rw [e1, e2, u32_or_nat _ _ (Nat.mod_lt _ (by decide)) (Nat.lt_of_le_of_lt (Nat.div_le_self _ _) hn)]
  rfl
theorem and31 (b : Int) (h : -9223372036854775808 ≤ b) (h' : b ≤ 9223372036854775807) : bits .and .i64 b 31 = b % 32 := by
  show IntKind.i64.wrap ((BitVec.ofInt 64 b &&& BitVec.ofInt 64 31).toNat : Int) = _
  have e : (BitVec.ofInt 64 31).toNat = 2 ^ 5 - 1 := rfl
  rw [BitVec.toNat_and, e, Nat.and_two_pow_sub_one_eq_mod, BitVec.toNat_ofInt, IntKind.wrap_i64]
  simp
  omega
theorem or_low (x c j : Nat) (hx : x < 256 ^ j) (hc : c < 256) (hj : j < 8) :
    bits .or .u64 (x : Int) (IntKind.u64.wrap ((c : Int) * 2 ^ (8 * j))) = ((x + c * 256 ^ j : Nat) : Int) := by
  have hp : 256 ^ j * 256 ≤ 2 ^ 64 := by rw [← Nat.pow_succ, show (2 ^ 64 : Nat) = 256 ^ 8 from rfl]; exact Nat.pow_le_pow_right (by omega) (by omega)
  have hc' : c * 256 ^ j < 18446744073709551616 := by
    have : c * 256 ^ j < 256 * 256 ^ j := Nat.mul_lt_mul_of_pos_right hc (Nat.pow_pos (by omega))
    omega
  have e : ((c : Int) * 2 ^ (8 * j)) = ((c * 256 ^ j : Nat) : Int) := by rw [pow256]; simp
  have hx' : x < 18446744073709551616 := by omega
  have ew : IntKind.u64.wrap ((c * 256 ^ j : Nat) : Int) = ((c * 256 ^ j : Nat) : Int) := by rw [IntKind.wrap_u64]; omega
  rw [e, ew, u64_or_nat x (c * 256 ^ j) hx' hc']
  congr 1
  rw [Nat.or_comm, Nat.add_comm]
  exact nat_join (8 * j) _ _ (by rw [pow256]; simp) (by rw [← pow256]; exact hx)
theorem ofLe_take (l : List UInt8) (j : Nat) (h : j < l.length) : ofLe (l.take (j + 1)) = ofLe (l.take j) + (l.getD j 0).toNat * 256 ^ j := by
  rw [List.take_succ_eq_append_getElem h, ofLe_append]
  simp only [List.length_take, ofLe, Nat.mul_zero, Nat.add_zero]
  rw [Nat.min_eq_left (by omega), Nat.mul_comm]
  simp [List.getD, List.getElem?_eq_getElem h]
theorem ofLe_drop (l : List UInt8) (j : Nat) (h : j < l.length) : ofLe (l.drop j) = ofLe (l.drop (j + 1)) * 256 + (l.getD j 0).toNat := by
  rw [List.drop_eq_getElem_cons h]
  simp only [ofLe]
  simp [List.getD, List.getElem?_eq_getElem h]
  omega
theorem wid_step (m o s k : Nat) (hs : s = 2 ^ k) (hlt : m / 2 ^ o < 2 ^ (2 ^ (k + 1))) :
    m / 2 ^ (o + s) = m / 2 ^ o / 2 ^ s ∧ m / 2 ^ (o + s) < 2 ^ (2 ^ k) ∧ (m / 2 ^ o / 2 ^ s = 0 → m / 2 ^ o < 2 ^ (2 ^ k)) := by
  have e : m / 2 ^ (o + s) = m / 2 ^ o / 2 ^ s := by rw [Nat.pow_add, Nat.div_div_eq_div_mul]
  subst hs
  have hp : 2 ^ (2 ^ (k + 1)) = 2 ^ (2 ^ k) * 2 ^ (2 ^ k) := by rw [← Nat.pow_add, Nat.pow_succ, Nat.mul_two]
  refine ⟨e, ?_, fun h => ?_⟩
  · rw [e, Nat.div_lt_iff_lt_mul (Nat.two_pow_pos _), ← hp]; exact hlt
  · rcases Nat.div_eq_zero_iff.1 h with h | h
    · have := Nat.two_pow_pos (2 ^ k); omega
    · exact h
end Go.Proofs.Ytailbppddnegoaa
