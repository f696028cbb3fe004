/- Layer 1 (bits): the contracts of Bytes and High and of the reference's Room, Bytes, SameBytes; awake. -/
import Derived.Test.YtjlmbdhjpjbneaaB1
import Derived.Test.YtjlmbdhjpjbneaaBM
import Derived.Deep.QuietTactic
import Derived.BigQuiet
import Derived.Deep.LoopGhost
namespace Go.Proofs.Ytjlmbdhjpjbneaa
open Go.RowKit
set_option linter.unusedVariables false
set_option maxRecDepth 100000

theorem Try.info_u8 : (Try.prog.info? 5).map (fun i => (i.zero, i.size, i.bytes)) = some (some (.int .u8 0), 1, 1) := by kernel_rfl

/-- A new slice of bytes beside a number that says the error. -/
def NewBytes2 (w : World) (l : List UInt8) (er : Int) (e : Ending) (w' : World) : Prop :=
  ∃ A c, e = .returned (.tuple #[.slice A l.length c, .int .i64 er]) ∧ Own w' w.heap.size 5 1 A l.length c (bv l) ∧ Below w.heap.size w w'

theorem wrap_byte (n k : Nat) (h : k < 8) : (n : Int) / 2 ^ (8 * k) % 256 = ((UInt8.ofNat (n / 256 ^ k % 256)).toNat : Int) := by
  have e : ((n : Int) / 2 ^ (8 * k)) = ((n / 256 ^ k : Nat) : Int) := by rw [pow256]; simp
  rw [e]
  simp
theorem bytes_no (n : Nat) (k : Int) (hn : n < 18446744073709551616) (hk : k < 1 ∨ 8 < k ∨ ¬ n < 2 ^ (8 * k.toNat)) (h1 : -9223372036854775808 ≤ k) (h2 : k ≤ 9223372036854775807) (w : World) :
    Calls Try.prog 96 #[.int .u64 n, .int .i64 k] w fun e w' => e = .returned (.tuple #[.slice none 0 0, .int .i64 4]) ∧ w = w' := by
  by_cases a1 : k < 1
  · go_enter Try.func96, Try.ntmps96
    go_wp2
    go_ret2
    exact ⟨rfl, rfl⟩
  · by_cases a2 : 8 < k
    · go_enter Try.func96, Try.ntmps96
      go_wp2
      go_ret2
      exact ⟨rfl, rfl⟩
    · obtain ⟨j, rfl⟩ := Int.eq_ofNat_of_zero_le (show 0 ≤ k by omega)
      have hr : roomB n (8 * j) = false := by
        have := roomB_iff n (8 * j) hn
        have h3 : ¬ n < 2 ^ (8 * j) := by rcases hk with h | h | h <;> first | omega | simpa using h
        cases hb : roomB n (8 * j)
        · rfl
        · exact absurd (this.1 hb) h3
      clear hk
      have c1 := room_any n (8 * j) hn (by omega)
      rw [hr] at c1
      have C := Lib.hid c1
      clear c1 hr
      have e8 : ((8 * j : Nat) : Int) = 8 * (j : Int) := by omega
      go_enter Try.func96, Try.ntmps96
      go_wp2_with (go_at_call 115; refine (C.out _).mono ?_; rintro e w' ⟨rfl, rfl⟩)
      go_ret2
      exact ⟨rfl, rfl⟩
set_option maxHeartbeats 400000 in
theorem bytes_any (n k : Nat) (hn : n < 18446744073709551616) (h1 : 1 ≤ k) (h8 : k ≤ 8) (hr : n < 2 ^ (8 * k)) (w : World) :
    Calls Try.prog 96 #[.int .u64 n, .int .i64 k] w (NewBytes2 w (leB n k) 0) := by
  obtain ⟨i0, hi, hz0, hz1, hz2⟩ := info_parts Try.info_u8
  have c1 := room_any n (8 * k) hn (by omega)
  rw [(roomB_iff n (8 * k) hn).2 hr] at c1
  have C := Lib.hid c1
  clear c1 hr
  have e8 : ((8 * k : Nat) : Int) = 8 * (k : Int) := by omega
  go_enter Try.func96, Try.ntmps96
  go_wp2_with (first
    | (go_at_call 115; refine (C.out _).mono ?_; rintro e w' ⟨rfl, rfl⟩)
    | (at_make; refine wpList_make_full _ rfl _ _ 62 rfl w.heap.size 5 i0 (.int .u8 0) 1 Try.underlying62 hi hz0 hz1 _ _ _ _ k rfl rfl (by omega) (by omega) (by rw [hz2]; omega) (by simp only [maxLen]; omega) (Nat.le_refl _) ?_; intro w1 hown hgrow))
  have hmade : w1.ownsRow w.heap.size 5 1 (.slice (some ⟨w.heap.size, 0, none⟩) k k) k (leCells n k 0) := by
    rw [leCells_zero]
    rw [show (Value.int IntKind.u8 0).cells = #[Value.int .u8 0] from rfl, Nat.mul_one, toList_madeCells_one] at hown
    exact hown
  have hb1 : Below w.heap.size w w1 := (Below.refl _ _).grown hgrow (Nat.le_refl _) (by simp)
  have hsz : w.heap.size < w1.heap.size := (hmade.lt w.heap.size rfl).2
  clear hown hgrow hi hz0 hz1 hz2 C e8
  go_loopw [24] (fun i wr => ∃ j : Nat, j ≤ k ∧ i = .int .i64 j ∧ wr.ownsRow w.heap.size 5 1 (.slice (some ⟨w.heap.size, 0, none⟩) k k) k (leCells n k j) ∧ Below w.heap.size w wr) (fun i _ => k - (intOf i).toNat)
  case atStart => exact ⟨0, Nat.zero_le _, rfl, hmade, hb1⟩
  case round =>
    obtain ⟨j, hj, rfl, hown, hb⟩ := hrel
    by_cases hlt : j < k
    · have hc : wr.cell? ⟨w.heap.size, j, none⟩ = some (.int .u8 0) := by rw [hown.cellAt j (by omega), leCells_at n k j hlt]
      have hf : wr.frozen? ⟨w.heap.size, j, none⟩ = false := hown.frozenAt j
      have hst := hown.stored j (.int .u8 ((UInt8.ofNat (n / 256 ^ j % 256)).toNat : Int))
      rw [leCells_set n k j hlt] at hst
      have HV := Lib.hid (wrap_byte n j (by omega))
      have HST := Lib.hid hst
      clear hst
      go_wp2
      go_roundw
      case rel => 
        rw [HV.out]
        exact ⟨j + 1, by omega, by go_num, HST.out.1, hb.grown HST.out.2 hb.size (by intro g hg; injection hg with hg; omega)⟩
      case measure => simp [intOf]; omega
    · have hjk : j = k := by omega
      subst hjk
      rw [leCells_full] at hown
      have HO := Lib.hid hown
      clear hown
      go_wp2
      go_ret2
      refine ⟨some ⟨w.heap.size, 0, none⟩, j, ?_, ?_, hb⟩
      · rw [leB_length]; rfl
      · rw [leB_length]; exact ⟨HO.out, Nat.le_refl _, by simp only [maxLen]; omega⟩
end Go.Proofs.Ytjlmbdhjpjbneaa
