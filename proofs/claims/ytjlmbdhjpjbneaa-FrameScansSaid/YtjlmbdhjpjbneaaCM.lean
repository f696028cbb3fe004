/- Layer 3 (crc), plain: the register's step is linear, and nothing but 0 becomes 0. No program in sight. -/
import Derived.Test.YtjlmbdhjpjbneaaW
namespace Go.Proofs.Ytjlmbdhjpjbneaa
open Go.RowKit
set_option linter.unusedVariables false
set_option maxRecDepth 100000

/-- One place down. -/
def stp (s : Nat) : Nat := if s % 2 = 1 then (s / 2) ^^^ 3988292384 else s / 2
def stpN : Nat → Nat → Nat
  | 0, s => s
  | k + 1, s => stpN k (stp s)
theorem stpN_add (a b s : Nat) : stpN (a + b) s = stpN b (stpN a s) := by
  induction a generalizing s with
  | zero => simp [stpN]
  | succ a ih => rw [Nat.succ_add]; exact ih _
theorem stpN_succ (k s : Nat) : stpN (k + 1) s = stp (stpN k s) := by rw [stpN_add]; rfl
theorem stp_xor (a b : Nat) : stp (a ^^^ b) = stp a ^^^ stp b := by
  have hd : (a ^^^ b) / 2 = a / 2 ^^^ b / 2 := by simp [Nat.xor_div_two]
  have hm : (a ^^^ b) % 2 = (a + b) % 2 := by
    have := Nat.xor_mod_two_eq_one (a := a) (b := b)
    rcases Nat.mod_two_eq_zero_or_one a with ha | ha <;> rcases Nat.mod_two_eq_zero_or_one b with hb | hb <;>
      rcases Nat.mod_two_eq_zero_or_one (a ^^^ b) with hc | hc <;> simp [ha, hb, hc] at this <;> omega
  unfold stp
  rw [hd]
  rcases Nat.mod_two_eq_zero_or_one a with ha | ha <;> rcases Nat.mod_two_eq_zero_or_one b with hb | hb
  · rw [if_neg (by omega), if_neg (by omega), if_neg (by omega)]
  · rw [if_pos (by omega), if_neg (by omega), if_pos (by omega), Nat.xor_assoc]
  · rw [if_pos (by omega), if_pos (by omega), if_neg (by omega), Nat.xor_assoc, Nat.xor_assoc, Nat.xor_comm 3988292384]
  · rw [if_neg (by omega), if_pos (by omega), if_pos (by omega)]
    have e : a / 2 ^^^ 3988292384 ^^^ (b / 2 ^^^ 3988292384) = a / 2 ^^^ b / 2 ^^^ (3988292384 ^^^ 3988292384) := by
      rw [Nat.xor_assoc, ← Nat.xor_assoc 3988292384 (b / 2), Nat.xor_comm 3988292384 (b / 2), Nat.xor_assoc (b / 2), ← Nat.xor_assoc (a / 2)]
    rw [e, Nat.xor_self, Nat.xor_zero]
theorem stpN_xor (k a b : Nat) : stpN k (a ^^^ b) = stpN k a ^^^ stpN k b := by
  induction k generalizing a b with
  | zero => rfl
  | succ k ih => simp only [stpN, stp_xor, ih]
theorem stp_lt {s : Nat} (h : s < 4294967296) : stp s < 4294967296 := by
  unfold stp
  split
  · exact Nat.xor_lt_two_pow (n := 32) (by omega) (by omega)
  · omega
theorem stpN_lt (k : Nat) {s : Nat} (h : s < 4294967296) : stpN k s < 4294967296 := by
  induction k generalizing s with
  | zero => exact h
  | succ k ih => exact ih (stp_lt h)
theorem stp_zero {s : Nat} (h : s < 4294967296) (h0 : stp s = 0) : s = 0 := by
  unfold stp at h0
  split at h0
  · have e : s / 2 = 3988292384 := by
      have := congrArg (· ^^^ 3988292384) h0
      simpa [Nat.xor_assoc] using this
    omega
  · omega
theorem stpN_zero (k : Nat) {s : Nat} (h : s < 4294967296) (h0 : stpN k s = 0) : s = 0 := by
  induction k generalizing s with
  | zero => exact h0
  | succ k ih => exact stp_zero h (ih (stp_lt h) h0)
theorem stpN_of_zero (k : Nat) : stpN k 0 = 0 := by
  induction k with
  | zero => rfl
  | succ k ih => exact ih
theorem stpN_eq_zero (k : Nat) {s : Nat} (h : s < 4294967296) : stpN k s = 0 ↔ s = 0 :=
  ⟨stpN_zero k h, fun e => by rw [e]; exact stpN_of_zero k⟩
/-- What each number of four bits becomes by four steps. -/
def tab16 : List Nat := [0x00000000, 0x1db71064, 0x3b6e20c8, 0x26d930ac, 0x76dc4190, 0x6b6b51f4, 0x4db26158, 0x5005713c, 0xedb88320, 0xf00f9344, 0xd6d6a3e8, 0xcb61b38c, 0x9b64c2b0, 0x86d3d2d4, 0xa00ae278, 0xbdbdf21c]
theorem tab16_at : ∀ r : Fin 16, stpN 4 r.val = tab16.getD r.val 0 := by decide
theorem stpN_mul16 (y : Nat) : stpN 4 (y * 16) = y := by
  have e : ∀ z, stp (z * 2) = z := by
    intro z
    unfold stp
    rw [if_neg (by omega)]
    omega
  simp only [stpN]
  rw [show y * 16 = (y * 8) * 2 by omega, e, show y * 8 = (y * 4) * 2 by omega, e, show y * 4 = (y * 2) * 2 by omega, e, e]
theorem split16 (x : Nat) : x = (x / 16 * 16) ^^^ (x % 16) := by
  have h1 : x / 16 * 16 ||| x % 16 = x / 16 * 16 + x % 16 := nat_join 4 _ _ (by omega) (by omega)
  have h2 : (x / 16 * 16) ^^^ (x % 16) = (x / 16 * 16) ||| (x % 16) := by
    apply Nat.eq_of_testBit_eq
    intro i
    rw [Nat.testBit_xor, Nat.testBit_or]
    by_cases hi : i < 4
    · have : (x / 16 * 16).testBit i = false := by
        rw [show (16 : Nat) = 2 ^ 4 from rfl, Nat.testBit_mul_two_pow]
        simp; omega
      rw [this]; simp
    · have : (x % 16).testBit i = false := by
        rw [show (16 : Nat) = 2 ^ 4 from rfl, Nat.testBit_mod_two_pow]
        simp; omega
      rw [this]; simp
  rw [h2, h1]
  omega
theorem stp4 (x : Nat) : stpN 4 x = x / 16 ^^^ tab16.getD (x % 16) 0 := by
  have h := tab16_at ⟨x % 16, Nat.mod_lt _ (by omega)⟩
  calc stpN 4 x = stpN 4 ((x / 16 * 16) ^^^ (x % 16)) := by rw [← split16]
    _ = _ := by rw [stpN_xor, stpN_mul16]; rw [h]
/-- The register behind bytes. -/
def reg : Nat → List UInt8 → Nat
  | s, [] => s
  | s, c :: l => reg (stpN 8 (s ^^^ c.toNat)) l
theorem reg_nil (s : Nat) : reg s [] = s := rfl
theorem reg_cons (s : Nat) (c : UInt8) (l : List UInt8) : reg s (c :: l) = reg (stpN 8 (s ^^^ c.toNat)) l := rfl
theorem reg_append (s : Nat) (l m : List UInt8) : reg s (l ++ m) = reg (reg s l) m := by
  induction l generalizing s with
  | nil => rfl
  | cons c l ih => exact ih _
theorem xor_byte_lt {s : Nat} (h : s < 4294967296) (c : UInt8) : s ^^^ c.toNat < 4294967296 :=
  Nat.xor_lt_two_pow (n := 32) (by omega) (by have := c.toNat_lt; omega)
theorem reg_lt {s : Nat} (h : s < 4294967296) (l : List UInt8) : reg s l < 4294967296 := by
  induction l generalizing s with
  | nil => exact h
  | cons c l ih => exact ih (stpN_lt 8 (xor_byte_lt h c))
theorem reg_xor (s d : Nat) (l : List UInt8) : reg (s ^^^ d) l = reg s l ^^^ stpN (8 * l.length) d := by
  induction l generalizing s d with
  | nil => rfl
  | cons c l ih =>
    rw [List.length_cons, reg_cons, reg_cons]
    have e : s ^^^ d ^^^ c.toNat = s ^^^ c.toNat ^^^ d := by rw [Nat.xor_assoc, Nat.xor_comm d, ← Nat.xor_assoc]
    rw [e, stpN_xor, ih, show 8 * (l.length + 1) = 8 + 8 * l.length by omega, stpN_add]
theorem reg_zeros (s k : Nat) : reg s (List.replicate k 0) = stpN (8 * k) s := by
  induction k generalizing s with
  | zero => rfl
  | succ k ih =>
    rw [List.replicate_succ, show 8 * (k + 1) = 8 + 8 * k by omega, stpN_add]
    rw [reg_cons, ih]
    simp
/-- The sum of bytes. -/
def crcN (l : List UInt8) : Nat := 4294967295 - reg 4294967295 l
theorem not32 {a : Nat} (h : a < 4294967296) : 4294967295 ^^^ a = 4294967295 - a := by
  have := BitVec.toNat_not (x := BitVec.ofNat 32 a)
  have e1 : (BitVec.ofNat 32 a).toNat = a := by rw [BitVec.toNat_ofNat]; exact Nat.mod_eq_of_lt h
  have e2 : (~~~ (BitVec.ofNat 32 a)) = BitVec.allOnes 32 ^^^ BitVec.ofNat 32 a := by rw [BitVec.allOnes_xor]
  rw [e2, BitVec.toNat_xor, e1, BitVec.toNat_allOnes] at this
  simpa using this
theorem crcN_lt (l : List UInt8) : crcN l < 4294967296 := by unfold crcN; omega
theorem crcN_xor (l : List UInt8) : crcN l = 4294967295 ^^^ reg 4294967295 l := by rw [not32 (reg_lt (by omega) l)]; rfl
/-- A byte that is changed. -/
theorem crcN_set (l : List UInt8) (k : Nat) (hk : k < l.length) (by_ : UInt8) :
    crcN (l.set k (l.getD k 0 ^^^ by_)) = crcN l ^^^ stpN (8 * (l.length - k)) by_.toNat := by
  have hl : l = l.take k ++ l.getD k 0 :: l.drop (k + 1) := by
    rw [List.getD, List.getElem?_eq_getElem hk, Option.getD_some, ← List.drop_eq_getElem_cons hk, List.take_append_drop]
  have hs : l.set k (l.getD k 0 ^^^ by_) = l.take k ++ (l.getD k 0 ^^^ by_) :: l.drop (k + 1) := by
    rw [List.set_eq_take_append_cons_drop, if_pos hk]
  have e1 : reg 4294967295 (l.set k (l.getD k 0 ^^^ by_)) = reg 4294967295 l ^^^ stpN (8 * (l.length - k)) by_.toNat := by
    rw [hs]
    conv => rhs; arg 1; rw [hl]
    rw [reg_append, reg_append, reg_cons, reg_cons]
    rw [UInt8.toNat_xor, ← Nat.xor_assoc, stpN_xor, reg_xor, List.length_drop, show 8 * (l.length - k) = 8 + 8 * (l.length - (k + 1)) by omega, stpN_add]
  rw [crcN_xor, crcN_xor, e1, Nat.xor_assoc]
theorem crcN_zeros (l : List UInt8) (k : Nat) : crcN (l ++ List.replicate k 0) = 4294967295 - stpN (8 * k) (4294967295 - crcN l) := by
  unfold crcN
  rw [reg_append, reg_zeros]
  have := reg_lt (s := 4294967295) (by omega) l
  congr 2
  omega
end Go.Proofs.Ytjlmbdhjpjbneaa
