/- Layer 3 (crc): the walk of the law CrcZeros. -/
import Derived.Test.YtccmifmfegjonaaC3
import Derived.Test.YtccmifmfegjonaaW2
namespace Go.Proofs.Ytccmifmfegjonaa
open Go.RowKit
set_option linter.unusedVariables false

theorem bv_zeros (k : Nat) : bv (List.replicate k 0) = List.replicate k (.int .u8 0) := by simp [bv]
theorem zeros_far (w : World) (A : Option Addr) (m c : Nat) (l : List UInt8) (hr : Rd w w.heap.size 1 A m (bv l)) (hm : m ≤ 9223372036854775807) (n : Int) (wn : (Lit.int .i64 n).wf = true)
    (h : 500 < m ∨ n < 0 ∨ 500 < n) :
    Calls Try.prog 11 #[.slice A m c, .int .i64 n] w fun e w' => e = .returned (.bool true) ∧ Below w.heap.size w w' := by
  have C9 := Lib.hid awake03_any
  by_cases h1 : 500 < m
  · clear h
    go_enter Try.func11, Try.ntmps11
    go_wp2_with fail
    refine (C9.out _).mono ?_; rintro e w2 ⟨rfl, hb2⟩
    go_wp2
    go_ret
    exact ⟨rfl, hb2⟩
  · have C1 := Lib.hid (sum_any A m c w.heap.size l w (by omega) hr (Nat.le_refl _))
    generalize crcN l = S at *
    by_cases h2 : n < 0
    · clear h
      have C2 := Lib.hid (zeros_no S n (.inl h2))
      have d1 : decide (500 < n) = false := by simp; omega
      go_enter Try.func11, Try.ntmps11
      go_wp2_with fail
      refine (C1.out).mono ?_; rintro e w1 ⟨rfl, b1⟩
      go_wp2_with fail
      refine (C2.out _).mono ?_; rintro e w' ⟨rfl, rfl⟩
      go_wp2_with fail
      refine (C9.out _).mono ?_; rintro e w2 ⟨rfl, hb2⟩
      go_wp2
      go_ret
      exact ⟨rfl, below_step b1 hb2⟩
    · have h3 : 500 < n := by omega
      clear h
      have d1 : decide (500 < n) = true := by simp; omega
      by_cases h4 : n ≤ 1048576
      · go_enter Try.func11, Try.ntmps11
        go_wp2_with fail
        refine (C9.out _).mono ?_; rintro e w2 ⟨rfl, hb2⟩
        go_wp2
        go_ret
        exact ⟨rfl, hb2⟩
      · have C2 := Lib.hid (zeros_no S n (by omega))
        have d2 : decide (n ≤ 1048576) = false := by simp; omega
        go_enter Try.func11, Try.ntmps11
        go_wp2_with fail
        refine (C1.out).mono ?_; rintro e w1 ⟨rfl, b1⟩
        go_wp2_with fail
        refine (C2.out _).mono ?_; rintro e w' ⟨rfl, rfl⟩
        go_wp2_with fail
        refine (C9.out _).mono ?_; rintro e w2 ⟨rfl, hb2⟩
        go_wp2
        go_ret
        exact ⟨rfl, below_step b1 hb2⟩
set_option maxHeartbeats 400000 in
theorem zeros_in (w : World) (A : Option Addr) (m c : Nat) (l : List UInt8) (hr : Rd w w.heap.size 1 A m (bv l)) (hm : m ≤ 500) (n : Nat) (hn : n ≤ 500) :
    Calls Try.prog 11 #[.slice A m c, .int .i64 n] w fun e w' => e = .returned (.bool true) ∧ Below w.heap.size w w' := by
  have hl : l.length = m := by have := hr.len; rw [bv_length] at this; exact this
  obtain ⟨i0, hi, hz0, hz1, hz2⟩ := info_parts Try.info_b
  have C9 := Lib.hid awake03_any
  have C1 := Lib.hid (sum_any A m c w.heap.size l w (by omega) hr (Nat.le_refl _))
  have C2 := Lib.hid (zeros_any (crcN l) n (crcN_lt l) (by omega))
  have hz := crcN_zeros l n
  have C3 := Lib.hid (fun (A : Option Addr) (c B : Nat) => rsum_any A (m + n) c B (l ++ List.replicate n 0))
  have hY : ((crcN (l ++ List.replicate n 0) : Int) == (crcN (l ++ List.replicate n 0) : Int)) = true := by simp
  rw [← hz] at C2
  clear hz
  generalize crcN (l ++ List.replicate n 0) = Y at *
  generalize crcN l = S at *
  have d1 : decide ((500 : Int) < (n : Int)) = false := by simp; omega
  have hnn : ¬ (500 : Int) < (n : Int) := by omega
  go_enter Try.func11, Try.ntmps11
  go_wp2_with fail
  refine (C1.out).mono ?_; rintro e w1 ⟨rfl, b1⟩
  go_wp2_with fail
  refine (C2.out _).mono ?_; rintro e w' ⟨rfl, rfl⟩
  have hz1s := b1.size
  go_wp2_with (first
    | (at_builtin; refine wpList_append_rdw _ rfl (.tmp 45) (.tmp 46) 27 rfl w1.heap.size 5 i0 (.int .u8 0) 1 1 Try.underlying27 hi hz0 hz1 hz2 rfl (by decide) (by decide) _ 0 0 [] rfl (own_lit0 _ _) w.heap.size A m c (bv l) rfl ((hr.below b1).alloc (by omega) _) (bv_oneCell l) (by omega) (by simp) ?_; intro A2 c2 w2 o2 b2; simp only [Nat.zero_add, List.nil_append] at o2)
    | (at_builtin; refine wpList_append_zerosw _ rfl (.tmp 47) (.tmp 48) 27 3 rfl .i64 Try.underlying3 w1.heap.size 5 i0 (.int .u8 0) 1 Try.underlying27 hi hz0 hz1 hz2 rfl rfl (by decide) A2 m c2 (bv l) rfl o2 n rfl (by omega) (by have := b2.size; simp at this; omega) ?_; intro A3 c3 w3 o3 b3; rw [← bv_zeros, ← bv_append] at o3))
  have bA : Below w1.heap.size w1 w3 := (((Below.refl _ _).alloc (Nat.le_refl _) _).trans b2).trans b3
  refine (C3.out A3 c3 w3.heap.size _ (by omega) o3.rd).mono ?_; rintro e w' ⟨rfl, rfl⟩
  go_wp2_with fail
  refine (C9.out _).mono ?_; rintro e w4 ⟨rfl, b4⟩
  go_wp2
  go_ret
  exact ⟨rfl, below_step (below_step b1 bA) b4⟩
theorem crcZeros_walk (w : World) {v : Value} {n : Int} (hb : IsBytes w v) (wn : (Lit.int .i64 n).wf = true) :
    Calls Try.prog 11 #[v, .int .i64 n] w fun e w' => e = .returned (.bool true) ∧ Below w.heap.size w w' := by
  obtain ⟨A, m, c, l, rfl, hnc, hc, hr⟩ := hb
  simp only [maxLen] at hc
  by_cases h : 500 < m ∨ n < 0 ∨ 500 < n
  · exact zeros_far w A m c l hr (by omega) n wn h
  · obtain ⟨N, rfl⟩ := Int.eq_ofNat_of_zero_le (show 0 ≤ n by omega)
    exact zeros_in w A m c l hr (by omega) N (by omega)
end Go.Proofs.Ytccmifmfegjonaa
