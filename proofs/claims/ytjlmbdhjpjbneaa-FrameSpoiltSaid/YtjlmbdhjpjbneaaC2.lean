/- Layer 3 (crc): awake, step, down, Zeros, Change; the walks of the laws CrcSums, CrcBehind, CrcChanges. -/
import Derived.Test.YtjlmbdhjpjbneaaC1
import Derived.Test.YtjlmbdhjpjbneaaO2
import Derived.Lib.SlBytesConst
namespace Go.Proofs.Ytjlmbdhjpjbneaa
open Go.RowKit
set_option linter.unusedVariables false
set_option maxRecDepth 100000

theorem crc_check : crcN [49, 50, 51, 52, 53, 54, 55, 56, 57] = 3421780262 := by decide +kernel
theorem step_bits (s : Nat) (hs : s < 4294967296) : bits .xor .u32 ((s : Int) / 2) (bits .and .u32 3988292384 (IntKind.u32.wrap (-(bits .and .u32 (s : Int) 1)))) = ((stp s : Nat) : Int) := by
  have e1 : bits .and .u32 (s : Int) 1 = ((s % 2 : Nat) : Int) := by
    rw [show (1 : Int) = ((1 : Nat) : Int) from rfl, u32_and_nat s 1 hs (by omega), nat_mask1]
  have e3 : ((s : Int) / 2) = ((s / 2 : Nat) : Int) := by simp
  rw [e1, e3]
  unfold stp
  rcases Nat.mod_two_eq_zero_or_one s with h | h
  · rw [h, if_neg (by omega)]
    have e2 : bits .and .u32 3988292384 (IntKind.u32.wrap (-((0 : Nat) : Int))) = ((0 : Nat) : Int) := by decide
    rw [e2, u32_xor_nat _ _ (by omega) (by omega), Nat.xor_zero]
  · rw [h, if_pos rfl]
    have e2 : bits .and .u32 3988292384 (IntKind.u32.wrap (-((1 : Nat) : Int))) = ((3988292384 : Nat) : Int) := by decide
    rw [e2, u32_xor_nat _ _ (by omega) (by omega)]
end Go.Proofs.Ytjlmbdhjpjbneaa
