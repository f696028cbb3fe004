/- BitsBytes: the walk of the law. -/
import Derived.Test.YtccmifmfegjonaaB4
import Derived.Test.YtccmifmfegjonaaO
namespace Go.Proofs.Ytccmifmfegjonaa
open Go.RowKit
set_option linter.unusedVariables false

theorem bitsBytes_no (n : Nat) (k : Int) (hn : n < 18446744073709551616) (h1 : -9223372036854775808 ≤ k) (h2 : k ≤ 9223372036854775807) (hk : k < 1 ∨ 8 < k ∨ ¬ n < 2 ^ (8 * k.toNat)) (w : World) :
    Calls Try.prog 6 #[.int .u64 n, .int .i64 k] w fun e w' => e = .returned (.bool true) ∧ Below w.heap.size w w' := by
  have C1 := Lib.hid (bytes_no n k hn hk h1 h2)
  have C2 := Lib.hid (high_no n k hn hk h1 h2)
  have C3 := Lib.hid awake01_any
  by_cases a1 : k < 1
  · clear hk
    go_enter Try.func6, Try.ntmps6
    go_wp2_with fail
    refine (C1.out _).mono ?_; rintro e w' ⟨rfl, rfl⟩
    go_wp2_with fail
    refine (C2.out _).mono ?_; rintro e w1 ⟨rfl, hb⟩
    go_wp2_with fail
    refine (C3.out _).mono ?_; rintro e w2 ⟨rfl, hb2⟩
    go_wp2
    go_ret
    exact ⟨rfl, below_step hb hb2⟩
  · by_cases a2 : 8 < k
    · clear hk
      go_enter Try.func6, Try.ntmps6
      go_wp2_with fail
      refine (C1.out _).mono ?_; rintro e w' ⟨rfl, rfl⟩
      go_wp2_with fail
      refine (C2.out _).mono ?_; rintro e w1 ⟨rfl, hb⟩
      go_wp2_with fail
      refine (C3.out _).mono ?_; rintro e w2 ⟨rfl, hb2⟩
      go_wp2
      go_ret
      exact ⟨rfl, below_step hb hb2⟩
    · obtain ⟨j, rfl⟩ := Int.eq_ofNat_of_zero_le (show 0 ≤ k by omega)
      have hr : roomB n (8 * j) = false := by
        have := roomB_iff n (8 * j) hn
        have h3 : ¬ n < 2 ^ (8 * j) := by rcases hk with h | h | h <;> first | omega | simpa using h
        cases hb : roomB n (8 * j)
        · rfl
        · exact absurd (this.1 hb) h3
      clear hk
      have c4 := rroom_any n (8 * j) hn (by omega)
      rw [hr, show ((8 * j : Nat) : Int) = 8 * (j : Int) by omega] at c4
      have C4 := Lib.hid c4
      clear c4 hr
      go_enter Try.func6, Try.ntmps6
      go_wp2_with fail
      refine (C1.out _).mono ?_; rintro e w' ⟨rfl, rfl⟩
      go_wp2_with fail
      refine (C2.out _).mono ?_; rintro e w1 ⟨rfl, hb⟩
      go_wp2_with fail
      refine (C4.out _).mono ?_; rintro e w1' ⟨rfl, rfl⟩
      go_wp2_with fail
      refine (C3.out _).mono ?_; rintro e w2 ⟨rfl, hb2⟩
      go_wp2
      go_ret
      exact ⟨rfl, below_step hb hb2⟩

set_option maxHeartbeats 1000000 in
theorem bitsBytes_yes (n k : Nat) (hn : n < 18446744073709551616) (h1 : 1 ≤ k) (h8 : k ≤ 8) (hr : n < 2 ^ (8 * k)) (w : World) :
    Calls Try.prog 6 #[.int .u64 n, .int .i64 k] w fun e w' => e = .returned (.bool true) ∧ Below w.heap.size w w' := by
  have c1 := bytes_any n k hn h1 h8 hr
  have c2 := high_any n k hn h1 h8 hr
  have c3 := rroom_any n (8 * k) hn (by omega)
  rw [(roomB_iff n (8 * k) hn).2 hr, show ((8 * k : Nat) : Int) = 8 * (k : Int) by omega] at c3
  have c4 := rbytes_any n k hn h8
  have hll := leB_length n k
  have C5 := Lib.hid (same_any (leB n k))
  clear hr
  generalize leB n k = l at *
  subst hll
  have C1 := Lib.hid c1
  have C2 := Lib.hid c2
  have C3 := Lib.hid c3
  have C4 := Lib.hid c4
  clear c1 c2 c3 c4
  go_enter Try.func6, Try.ntmps6
  go_wp2_with fail
  refine (C1.out _).mono ?_; rintro e w1 ⟨A, c, rfl, o1, b1⟩
  go_wp2_with fail
  refine (C2.out _).mono ?_; rintro e w2 ⟨A2, c2, rfl, o2, b2⟩
  rw [List.length_reverse] at o2 ⊢
  go_wp2_with fail
  refine (C3.out _).mono ?_; rintro e w2' ⟨rfl, rfl⟩
  go_wp2_with fail
  refine (C4.out _).mono ?_; rintro e w3 ⟨A3, c3, rfl, o3, b3⟩
  have r1 := (o1.rd.below b2).more b2.size |>.below b3
  go_wp2_with fail
  refine (C5.out A A3 _ _ _ _ w3.heap.size _ (by omega) (r1.more b3.size) o3.rd (Nat.le_refl _)).mono ?_; rintro e w4 ⟨rfl, b4⟩
  have r2 := (o2.rd.below b3).more b3.size |>.below b4
  have r3 := o3.rd.below b4
  have B4 := below_step (below_step (below_step b1 b2) b3) b4
  clear o1 o2 o3 r1 b1 b2 b3
  go_wp2
  go_loopw [10] (fun i wr => ∃ j : Nat, j ≤ l.length ∧ i = .int .i64 j ∧ Below w4.heap.size w4 wr) (fun i _ => l.length - (intOf i).toNat)
  case atStart => exact ⟨0, Nat.zero_le _, rfl, Below.refl _ _⟩
  case round =>
    obtain ⟨j, hj, rfl, hb⟩ := hrel
    by_cases hlt : j < l.length
    · obtain ⟨g2, o2, rfl, _, hc2⟩ := ((r2.more b4.size).below hb).byte hlt
      obtain ⟨g3, o3, rfl, _, hc3⟩ := ((r3.more b4.size).below hb).byte (k := l.length - 1 - j) (by omega)
      have e : l.reverse.getD j 0 = l.getD (l.length - 1 - j) 0 := by
        simp only [List.getD]
        rw [List.getElem?_reverse hlt]
      rw [e] at hc2
      clear e
      have hx := (l.getD (l.length - 1 - j) 0).toNat_lt
      generalize (l.getD (l.length - 1 - j) 0).toNat = x at *
      have hxx : ((x : Int) != (x : Int)) = false := by simp
      have hi1 : ((l.length : Int) - 1 - (j : Int)) < (l.length : Int) := by omega
      have hi2 : 0 ≤ ((l.length : Int) - 1 - (j : Int)) := by omega
      have hi3 : ((l.length : Int) - 1 - (j : Int)).toNat = l.length - 1 - j := by omega
      go_wp2
      go_quiet (fail)
      go_wp2
      go_roundw
      case rel => exact ⟨j + 1, by omega, by go_num, below_drewN hb _⟩
      case measure => simp [intOf]; omega
    · go_wp2_with fail
      refine (awake01_any _).mono ?_; rintro e w5 ⟨rfl, b5⟩
      go_wp2
      go_ret
      exact ⟨rfl, below_step (below_step B4 hb) b5⟩
theorem bitsBytes_walk (w : World) {n k : Int} (wn : (Lit.int .u64 n).wf = true) (wk : (Lit.int .i64 k).wf = true) :
    Calls Try.prog 6 #[.int .u64 n, .int .i64 k] w fun e w' => e = .returned (.bool true) ∧ Below w.heap.size w w' := by
  obtain ⟨h1, h2⟩ := bounds_i64 wk
  obtain ⟨g, g'⟩ := bounds_u64 wn
  obtain ⟨N, rfl⟩ := Int.eq_ofNat_of_zero_le g
  by_cases hk : k < 1 ∨ 8 < k ∨ ¬ N < 2 ^ (8 * k.toNat)
  · exact bitsBytes_no N k (by omega) h1 h2 hk w
  · obtain ⟨j, rfl⟩ := Int.eq_ofNat_of_zero_le (show 0 ≤ k by omega)
    exact bitsBytes_yes N j (by omega) (by omega) (by omega) (by
      rcases Nat.lt_or_ge N (2 ^ (8 * j)) with h | h
      · exact h
      · exact absurd (.inr (.inr (by simpa using h))) hk) w
end Go.Proofs.Ytccmifmfegjonaa
