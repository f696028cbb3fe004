/- Layer 1 (bits): the contracts of the reference's Power, Room, Bytes, SameBytes; of High; awake. -/
import Derived.Test.YtjlmbdhjpjbneaaB2
import Derived.BigRegion
namespace Go.Proofs.Ytjlmbdhjpjbneaa
open Go.RowKit
set_option linter.unusedVariables false
set_option maxRecDepth 100000

theorem power_any (k : Nat) (hk : k ≤ 63) (w : World) :
    Calls Try.prog 122 #[.int .i64 k] w fun e w' => e = .returned (.int .u64 ((2 ^ k : Nat) : Int)) ∧ w = w' := by
  go_enter Try.func122, Try.ntmps122
  go_wp2
  go_loop [3, 4] (fun out i => ∃ j : Nat, j ≤ k ∧ i = .int .i64 j ∧ out = .int .u64 ((2 ^ j : Nat) : Int)) (fun _ i => k - (intOf i).toNat)
  case atStart => exact ⟨0, Nat.zero_le _, rfl, rfl⟩
  case round =>
    obtain ⟨j, hj, rfl, rfl⟩ := hrel
    by_cases hlt : j < k
    · have hp : 2 ^ j ≤ 2 ^ 62 := Nat.pow_le_pow_right (by omega) (by omega)
      have hs : 2 ^ (j + 1) = 2 ^ j * 2 := Nat.pow_succ 2 j
      generalize hq : 2 ^ j = q at *
      have HS := Lib.hid hs
      have HQ := Lib.hid hq
      clear hs hq
      go_wp2
      go_round
      case rel => exact ⟨j + 1, by omega, by go_num, by rw [HS.out]; go_num⟩
      case measure => simp [intOf]; omega
    · have : j = k := by omega
      subst this
      go_wp2
      go_ret
      exact ⟨rfl, rfl⟩

def NewBytes (w : World) (l : List UInt8) (e : Ending) (w' : World) : Prop :=
  ∃ A c, e = .returned (.slice A l.length c) ∧ Own w' w.heap.size 5 1 A l.length c (bv l) ∧ Below w.heap.size w w'

theorem leB_step (n k j : Nat) : leB n (j + 1) = leB n j ++ [UInt8.ofNat (n / 256 ^ j % 256)] := leB_snoc n j
theorem quot_step (n j : Nat) : n / 256 ^ (j + 1) = n / 256 ^ j / 256 := by rw [Nat.pow_succ, Nat.div_div_eq_div_mul]
set_option maxHeartbeats 400000 in
theorem rbytes_any (n k : Nat) (hn : n < 18446744073709551616) (h8 : k ≤ 8) (w : World) :
    Calls Try.prog 100 #[.int .u64 n, .int .i64 k] w (NewBytes w (leB n k)) := by
  obtain ⟨i0, hi, hz0, hz1, hz2⟩ := info_parts Try.info_u8
  go_enter Try.func100, Try.ntmps100
  go_wp2
  go_loopw [0, 5, 6] (fun x out i wr => ∃ (j : Nat) (A : Option Addr) (c : Nat), j ≤ k ∧ i = .int .i64 j ∧ x = .int .u64 ((n / 256 ^ j : Nat) : Int) ∧ out = .slice A j c ∧ Own wr w.heap.size 5 1 A j c (bv (leB n j)) ∧ Below w.heap.size w wr) (fun _ _ i _ => k - (intOf i).toNat)
  case atStart =>
    refine ⟨0, _, 0, Nat.zero_le _, rfl, by simp, rfl, ⟨World.ownsRow_lit _ #[] 0 (by simp) (by simp [maxLen]) rfl, Nat.le_refl _, by simp [maxLen]⟩, ?_⟩
    exact (Below.refl _ _).alloc (Nat.le_refl _) _
  case round =>
    obtain ⟨j, A, c, hj, rfl, rfl, rfl, hown, hb⟩ := hrel
    by_cases hlt : j < k
    · have HQ := Lib.hid (quot_step n j)
      have HL := Lib.hid (leB_snoc n j)
      have hx : n / 256 ^ j < 18446744073709551616 := Nat.lt_of_le_of_lt (Nat.div_le_self _ _) hn
      generalize n / 256 ^ j = q at *
      have hs := hb.size
      go_wp2_with (at_builtin; refine wpList_append_rd _ rfl _ _ 62 rfl w.heap.size 5 i0 (.int .u8 0) 1 1 Try.underlying62 hi hz0 hz1 hz2 rfl (by decide) (by decide) A j c (bv (leB n j)) rfl (hown.alloc _) _ _ 1 1 [.int .u8 ((q : Int) % 256)] rfl (Rd.fresh _ _ _ 1 rfl) (by intro u hu; simp at hu; subst hu; rfl) (by omega) (by simp; omega) ?_; intro A2 c2 w2 hown2 hb2)
      go_roundw
      case rel => 
        refine ⟨j + 1, A2, c2, by omega, by go_num, by rw [HQ.out]; go_num, rfl, ?_, (hb.alloc (by omega) _).trans hb2⟩
        rw [HL.out, bv_append]
        have e : bv [UInt8.ofNat (q % 256)] = [.int .u8 ((q : Int) % 256)] := by simp [bv]
        rw [e]
        exact hown2
      case measure => simp [intOf]; omega
    · have hjk : j = k := by omega
      subst hjk
      go_wp2
      go_ret
      refine ⟨A, c, ?_, ?_, hb⟩
      · rw [leB_length]; rfl
      · rw [leB_length]; exact hown

set_option maxHeartbeats 400000 in
theorem same_any (l : List UInt8) (A A' : Option Addr) (n m c c' B : Nat) (w : World) (hl : n ≤ 9223372036854775807) (h1 : Rd w B 1 A n (bv l)) (h2 : Rd w B 1 A' m (bv l)) (hB : B ≤ w.heap.size) :
    Calls Try.prog 47 #[.slice A n c, .slice A' m c'] w fun e w' => e = .returned (.bool true) ∧ Below w.heap.size w w' := by
  have e1 := h1.len
  have e2 := h2.len
  rw [e1] at e2
  subst e2
  have hne : ((n : Int) != (n : Int)) = false := by simp
  go_enter Try.func47, Try.ntmps47
  go_wp2
  go_loopw [5] (fun i wr => ∃ j : Nat, j ≤ n ∧ i = .int .i64 j ∧ Below w.heap.size w wr) (fun i _ => n - (intOf i).toNat)
  case atStart => exact ⟨0, Nat.zero_le _, rfl, Below.refl _ _⟩
  case round =>
    obtain ⟨j, hj, rfl, hb⟩ := hrel
    by_cases hlt : j < n
    · obtain ⟨b, o, rfl, hb1, hc1⟩ := ((h1.more hB).below hb).byte hlt
      obtain ⟨b', o', rfl, hb2, hc2⟩ := ((h2.more hB).below hb).byte hlt
      have hx := (l.getD j 0).toNat_lt
      generalize (l.getD j 0).toNat = x at *
      have hxx : ((x : Int) != (x : Int)) = false := by simp
      go_wp2
      go_quiet (fail)
      go_wp2
      go_roundw
      case rel => exact ⟨j + 1, by omega, by go_num, below_drewN hb _⟩
      case measure => simp [intOf]; omega
    · go_wp2
      go_ret
      exact ⟨rfl, hb⟩
end Go.Proofs.Ytjlmbdhjpjbneaa
