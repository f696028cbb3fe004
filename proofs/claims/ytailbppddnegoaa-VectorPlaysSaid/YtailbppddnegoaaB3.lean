/- Layer 1 (bits): the contracts of the reference's Power, Room, Bytes, SameBytes; of High; awake. -/
import Derived.Test.YtailbppddnegoaaB2
import Derived.BigRegion
namespace Go.Proofs.Ytailbppddnegoaa
open Go.RowKit
set_option linter.unusedVariables false
set_option maxRecDepth 100000

def NewBytes (w : World) (l : List UInt8) (e : Ending) (w' : World) : Prop :=
  ∃ A c, e = .returned (.slice A l.length c) ∧ Own w' w.heap.size 5 1 A l.length c (bv l) ∧ Below w.heap.size w w'

theorem leB_step (n k j : Nat) : leB n (j + 1) = leB n j ++ [UInt8.ofNat (n / 256 ^ j % 256)] := leB_snoc n j
theorem quot_step (n j : Nat) : n / 256 ^ (j + 1) = n / 256 ^ j / 256 := by rw [Nat.pow_succ, Nat.div_div_eq_div_mul]
set_option maxHeartbeats 400000 in
theorem same_any (l : List UInt8) (A A' : Option Addr) (n m c c' B : Nat) (w : World) (hl : n ≤ 9223372036854775807) (h1 : Rd w B 1 A n (bv l)) (h2 : Rd w B 1 A' m (bv l)) (hB : B ≤ w.heap.size) :
    Calls Try.prog 59 #[.slice A n c, .slice A' m c'] w fun e w' => e = .returned (.bool true) ∧ Below w.heap.size w w' := by
  have e1 := h1.len
  have e2 := h2.len
  rw [e1] at e2
  subst e2
  have hne : ((n : Int) != (n : Int)) = false := by simp
  go_enter Try.func59, Try.ntmps59
  go_wp2
  go_loopw [5] (fun i wr => ∃ j : Nat, j ≤ n ∧ i = .int .i64 j ∧ Below w.heap.size w wr) (fun i _ => n - (intOf i).toNat)
  case atStart => exact ⟨0, Nat.zero_le _, rfl, Below.refl _ _⟩
  case round =>
    obtain ⟨j, hj, rfl, hb⟩ := hrel
    by_cases hlt : j < n
    · obtain ⟨b, o, rfl, hb1, hc1⟩ := ((h1.more hB).below hb).byte hlt
      obtain ⟨b', o', rfl, hb2, hc2⟩ := ((h2.more hB).below hb).byte hlt
      have hx := (l.getD j 0).toNat_lt
      generalize (l.getD j 0).toNat = x at *
      have hxx : ((x : Int) != (x : Int)) = false := by simp
      go_wp2
      go_quiet (fail)
      go_wp2
      go_roundw
      case rel => exact ⟨j + 1, by omega, by go_num, below_drewN hb _⟩
      case measure => simp [intOf]; omega
    · go_wp2
      go_ret
      exact ⟨rfl, hb⟩
end Go.Proofs.Ytailbppddnegoaa
