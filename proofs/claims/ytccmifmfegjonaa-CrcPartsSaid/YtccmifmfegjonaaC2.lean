/- Layer 3 (crc): awake, step, down, Zeros, Change; the walks of the laws CrcSums, CrcBehind, CrcChanges. -/
import Derived.Test.YtccmifmfegjonaaC1
import Derived.Test.YtccmifmfegjonaaO2
import Derived.Lib.SlBytesConst
namespace Go.Proofs.Ytccmifmfegjonaa
open Go.RowKit
set_option linter.unusedVariables false

theorem crc_check : crcN [49, 50, 51, 52, 53, 54, 55, 56, 57] = 3421780262 := by decide +kernel
theorem awake03_any (w : World) : Calls Try.prog 21 #[] w fun e w' => e = .returned (.bool true) ∧ Below w.heap.size w w' := by
  have C1 := Lib.hid (fun (A : Option Addr) (n c B : Nat) (w : World) => sum_any A n c B [49, 50, 51, 52, 53, 54, 55, 56, 57] w)
  have kc := fun (w : World) (C : Array Value) (n c : Nat) => Lib.run_convert_bytes_const (P := Try.prog) w 27 5 C n c Try.underlying27 Try.underlying5
  go_enter Try.func21, Try.ntmps21
  go_wp2_with fail
  clear kc
  refine (C1.out _ 9 _ (w.heap.size + 1) _ (by omega) (Rd.freshM _ _ _ _ 9 rfl) (by simp)).mono ?_; rintro e w2 ⟨rfl, b2⟩
  rw [crc_check]
  go_wp2
  go_ret
  exact ⟨rfl, below_step ((Below.refl _ _).alloc (Nat.le_refl _) _) b2⟩
theorem step_bits (s : Nat) (hs : s < 4294967296) : bits .xor .u32 ((s : Int) / 2) (bits .and .u32 3988292384 (IntKind.u32.wrap (-(bits .and .u32 (s : Int) 1)))) = ((stp s : Nat) : Int) := by
  have e1 : bits .and .u32 (s : Int) 1 = ((s % 2 : Nat) : Int) := by
    rw [show (1 : Int) = ((1 : Nat) : Int) from rfl, u32_and_nat s 1 hs (by omega), nat_mask1]
  have e3 : ((s : Int) / 2) = ((s / 2 : Nat) : Int) := by simp
  rw [e1, e3]
  unfold stp
  rcases Nat.mod_two_eq_zero_or_one s with h | h
  · rw [h, if_neg (by omega)]
    have e2 : bits .and .u32 3988292384 (IntKind.u32.wrap (-((0 : Nat) : Int))) = ((0 : Nat) : Int) := by decide
    rw [e2, u32_xor_nat _ _ (by omega) (by omega), Nat.xor_zero]
  · rw [h, if_pos rfl]
    have e2 : bits .and .u32 3988292384 (IntKind.u32.wrap (-((1 : Nat) : Int))) = ((3988292384 : Nat) : Int) := by decide
    rw [e2, u32_xor_nat _ _ (by omega) (by omega)]
theorem step_any (s : Nat) (hs : s < 4294967296) (w : World) :
    Calls Try.prog 61 #[.int .u32 s] w fun e w' => e = .returned (.int .u32 ((stp s : Nat) : Int)) ∧ w = w' := by
  have HS := Lib.hid (step_bits s hs)
  go_enter Try.func61, Try.ntmps61
  go_wp2
  go_ret
  refine ⟨ret_int ?_, rfl⟩
  exact HS.out
theorem down_any (x n : Nat) (hx : x < 4294967296) (hn : n ≤ 1048576) (w : World) :
    Calls Try.prog 59 #[.int .u32 x, .int .i64 n] w fun e w' => e = .returned (.int .u32 ((stpN (8 * n) x : Nat) : Int)) ∧ w = w' := by
  have C1 := Lib.hid step_any
  go_enter Try.func59, Try.ntmps59
  go_wp2
  go_loop [0, 7] (fun y i => ∃ j : Nat, j ≤ 8 * n ∧ i = .int .i64 j ∧ y = .int .u32 ((stpN j x : Nat) : Int)) (fun _ i => 8 * n - (intOf i).toNat)
  case atStart => exact ⟨0, by omega, rfl, rfl⟩
  case round =>
    obtain ⟨j, hj, rfl, rfl⟩ := hrel
    have hX := stpN_lt j hx
    by_cases hlt : j < 8 * n
    · have hst := stpN_succ j x
      generalize stpN j x = X at *
      have HS := Lib.hid hst
      clear hst
      go_wp2_with fail
      refine (C1.out X hX _).mono ?_; rintro e w' ⟨rfl, rfl⟩
      go_wp2
      go_round
      case rel => exact ⟨j + 1, by omega, by go_num, by rw [HS.out]⟩
      case measure => simp [intOf]; omega
    · have : j = 8 * n := by omega
      subst this
      go_wp2
      go_ret
      exact ⟨rfl, rfl⟩
theorem cwithin_any (n : Int) (w : World) :
    Calls Try.prog 58 #[.int .i64 n] w fun e w' => e = .returned (.bool (decide (0 ≤ n ∧ n ≤ 1048576))) ∧ w = w' := by
  by_cases h : 0 ≤ n
  · have d : decide (0 ≤ n) = true := by simp; omega
    go_enter Try.func58, Try.ntmps58
    go_wp2
    go_ret
    exact ⟨ret_bool (by simp [h]), rfl⟩
  · have d : decide (0 ≤ n) = false := by simp; omega
    go_enter Try.func58, Try.ntmps58
    go_wp2
    go_ret
    exact ⟨ret_bool (by first | (simp; done) | (simp; omega)), rfl⟩
theorem change_no (n at_ : Int) (x : Int) (h : n < 1 ∨ 1048576 < n ∨ at_ < 0 ∨ n ≤ at_) (w : World) :
    Calls Try.prog 40 #[.int .i64 n, .int .i64 at_, .int .u8 x] w fun e w' => e = .returned (.tuple #[.int .u32 0, .int .i64 4]) ∧ w = w' := by
  have c1 := cwithin_any n
  by_cases a1 : n < 1
  · clear h c1
    go_enter Try.func40, Try.ntmps40
    go_wp2
    go_ret2
    exact ⟨rfl, rfl⟩
  · by_cases a2 : 1048576 < n
    · rw [decide_eq_false (by omega)] at c1
      have C1 := Lib.hid c1
      clear h c1
      go_enter Try.func40, Try.ntmps40
      go_wp2_with (go_at_call 58; refine (C1.out _).mono ?_; rintro e w' ⟨rfl, rfl⟩)
      go_ret2
      exact ⟨rfl, rfl⟩
    · rw [decide_eq_true (by omega)] at c1
      have C1 := Lib.hid c1
      clear c1
      by_cases a3 : at_ < 0
      · clear h
        go_enter Try.func40, Try.ntmps40
        go_wp2_with (go_at_call 58; refine (C1.out _).mono ?_; rintro e w' ⟨rfl, rfl⟩)
        go_ret2
        exact ⟨rfl, rfl⟩
      · have a4 : n ≤ at_ := by omega
        clear h
        go_enter Try.func40, Try.ntmps40
        go_wp2_with (go_at_call 58; refine (C1.out _).mono ?_; rintro e w' ⟨rfl, rfl⟩)
        go_ret2
        exact ⟨rfl, rfl⟩
theorem change_any (n k : Nat) (x : Nat) (hx : x < 256) (hk : k < n) (hn : n ≤ 1048576) (w : World) :
    Calls Try.prog 40 #[.int .i64 n, .int .i64 k, .int .u8 x] w fun e w' => e = .returned (.tuple #[.int .u32 ((stpN (8 * (n - k)) x : Nat) : Int), .int .i64 0]) ∧ w = w' := by
  have c1 := cwithin_any n
  rw [decide_eq_true (by omega)] at c1
  have c2 := down_any x (n - k) (by omega) (by omega)
  rw [show (((n - k : Nat)) : Int) = (n : Int) - (k : Int) by omega] at c2
  have C1 := Lib.hid c1
  have C2 := Lib.hid c2
  clear c1 c2
  go_enter Try.func40, Try.ntmps40
  go_wp2_with (first
    | (go_at_call 58; refine (C1.out _).mono ?_; rintro e w' ⟨rfl, rfl⟩)
    | (go_at_call 59; refine (C2.out _).mono ?_; rintro e w' ⟨rfl, rfl⟩))
  go_ret2
  exact ⟨rfl, rfl⟩
theorem zeros_no (x n : Int) (h : n < 0 ∨ 1048576 < n) (w : World) :
    Calls Try.prog 41 #[.int .u32 x, .int .i64 n] w fun e w' => e = .returned (.tuple #[.int .u32 0, .int .i64 4]) ∧ w = w' := by
  have c1 := cwithin_any n
  rw [decide_eq_false (by omega)] at c1
  have C1 := Lib.hid c1
  clear h c1
  go_enter Try.func41, Try.ntmps41
  go_wp2_with (go_at_call 58; refine (C1.out _).mono ?_; rintro e w' ⟨rfl, rfl⟩)
  go_ret2
  exact ⟨rfl, rfl⟩
theorem zeros_any (x n : Nat) (hx : x < 4294967296) (hn : n ≤ 1048576) (w : World) :
    Calls Try.prog 41 #[.int .u32 x, .int .i64 n] w fun e w' => e = .returned (.tuple #[.int .u32 ((4294967295 - stpN (8 * n) (4294967295 - x) : Nat) : Int), .int .i64 0]) ∧ w = w' := by
  have c1 := cwithin_any n
  rw [decide_eq_true (by omega)] at c1
  have C1 := Lib.hid c1
  have C2 := Lib.hid (down_any (4294967295 - x) n (by omega) hn)
  have h1 := not_u32 x hx
  have h2 := not_u32 (stpN (8 * n) (4294967295 - x)) (stpN_lt _ (by omega))
  generalize stpN (8 * n) (4294967295 - x) = Y at *
  generalize 4294967295 - x = z at *
  generalize 4294967295 - Y = t at *
  have hsg : IntKind.u32.signed = false := rfl
  clear c1
  go_enter Try.func41, Try.ntmps41
  go_wp2_with (first
    | (go_at_call 58; refine (C1.out _).mono ?_; rintro e w' ⟨rfl, rfl⟩)
    | (go_at_call 59; refine (C2.out _).mono ?_; rintro e w' ⟨rfl, rfl⟩))
  go_ret2
  exact ⟨rfl, rfl⟩
theorem crcSums_walk (w : World) {v : Value} (hb : IsBytes w v) :
    Calls Try.prog 4 #[v] w fun e w' => e = .returned (.bool true) ∧ Below w.heap.size w w' := by
  obtain ⟨A, n, c, l, rfl, hnc, hc, hr⟩ := hb
  simp only [maxLen] at hc
  have C9 := Lib.hid awake03_any
  by_cases hn : 1000 < n
  · go_enter Try.func4, Try.ntmps4
    go_wp2_with fail
    refine (C9.out _).mono ?_; rintro e w2 ⟨rfl, hb2⟩
    go_wp2
    go_ret
    exact ⟨rfl, hb2⟩
  · have C1 := Lib.hid (sum_any A n c w.heap.size l w (by omega) hr (Nat.le_refl _))
    have C2 := Lib.hid (rsum_any A n c w.heap.size l)
    have hX : ((crcN l : Int) == (crcN l : Int)) = true := by simp
    generalize crcN l = X at *
    go_enter Try.func4, Try.ntmps4
    go_wp2_with fail
    refine (C1.out).mono ?_; rintro e w1 ⟨rfl, b1⟩
    go_wp2_with fail
    refine (C2.out _ (by omega) (hr.below b1)).mono ?_; rintro e w' ⟨rfl, rfl⟩
    go_wp2_with fail
    refine (C9.out _).mono ?_; rintro e w2 ⟨rfl, hb2⟩
    go_wp2
    go_ret
    exact ⟨rfl, below_step b1 hb2⟩

set_option maxHeartbeats 400000 in
theorem crcBehind_walk (w : World) {a : Value} {n x : Int} (wa : IsArr2 a) (wn : (Lit.int .i64 n).wf = true) (wx : (Lit.int .u8 x).wf = true) :
    Calls Try.prog 12 #[a, .int .i64 n, .int .u8 x] w fun e w' => e = .returned (.bool true) ∧ Below w.heap.size w w' := by
  obtain ⟨p, q, rfl, ⟨p1, p2⟩, ⟨q1, q2⟩⟩ := wa
  obtain ⟨g, g'⟩ := bounds_u8 wx
  obtain ⟨X, rfl⟩ := Int.eq_ofNat_of_zero_le g
  have C9 := Lib.hid awake03_any
  by_cases h : p < 0 ∨ 500 < p ∨ q < 0 ∨ 500 < q ∨ n < 0 ∨ 500 < n
  · have fin : ∀ w0 : World, Below w.heap.size w w0 → Calls Try.prog 21 #[] w0 fun e w' => e = .returned (.bool true) ∧ Below w.heap.size w w' := fun w0 hb0 => (C9.out w0).mono fun e w' ⟨he, hb⟩ => ⟨he, below_step hb0 hb⟩
    have F := Lib.hid fin
    clear fin
    by_cases a1 : p < 0
    · clear h
      go_enter Try.func12, Try.ntmps12
      go_wp2_with fail
      refine (F.out _ (by go_grown)).mono ?_; rintro e w2 ⟨rfl, hb2⟩
      go_wp2
      go_ret
      exact ⟨rfl, hb2⟩
    · by_cases a2 : 500 < p
      · clear h
        go_enter Try.func12, Try.ntmps12
        go_wp2_with fail
        refine (F.out _ (by go_grown)).mono ?_; rintro e w2 ⟨rfl, hb2⟩
        go_wp2
        go_ret
        exact ⟨rfl, hb2⟩
      · by_cases a3 : q < 0
        · clear h
          go_enter Try.func12, Try.ntmps12
          go_wp2_with fail
          refine (F.out _ (by go_grown)).mono ?_; rintro e w2 ⟨rfl, hb2⟩
          go_wp2
          go_ret
          exact ⟨rfl, hb2⟩
        · by_cases a4 : 500 < q
          · clear h
            go_enter Try.func12, Try.ntmps12
            go_wp2_with fail
            refine (F.out _ (by go_grown)).mono ?_; rintro e w2 ⟨rfl, hb2⟩
            go_wp2
            go_ret
            exact ⟨rfl, hb2⟩
          · by_cases a5 : n < 0
            · clear h
              go_enter Try.func12, Try.ntmps12
              go_wp2_with fail
              refine (F.out _ (by go_grown)).mono ?_; rintro e w2 ⟨rfl, hb2⟩
              go_wp2
              go_ret
              exact ⟨rfl, hb2⟩
            · have a6 : 500 < n := by omega
              clear h
              go_enter Try.func12, Try.ntmps12
              go_wp2_with fail
              refine (F.out _ (by go_grown)).mono ?_; rintro e w2 ⟨rfl, hb2⟩
              go_wp2
              go_ret
              exact ⟨rfl, hb2⟩
  · obtain ⟨P, rfl⟩ := Int.eq_ofNat_of_zero_le (show 0 ≤ p by omega)
    obtain ⟨Q, rfl⟩ := Int.eq_ofNat_of_zero_le (show 0 ≤ q by omega)
    obtain ⟨N, rfl⟩ := Int.eq_ofNat_of_zero_le (show 0 ≤ n by omega)
    have c1 := change_any (P + 1 + N) P X (by omega) (by omega) (by omega)
    have c2 := change_any (Q + 1 + N) Q X (by omega) (by omega) (by omega)
    rw [show P + 1 + N - P = N + 1 by omega, show ((P + 1 + N : Nat) : Int) = (P : Int) + 1 + (N : Int) by omega] at c1
    rw [show Q + 1 + N - Q = N + 1 by omega, show ((Q + 1 + N : Nat) : Int) = (Q : Int) + 1 + (N : Int) by omega] at c2
    generalize stpN (8 * (N + 1)) X = Y at *
    have hY : ((Y : Int) == (Y : Int)) = true := by simp
    have C1 := Lib.hid c1
    have C2 := Lib.hid c2
    have b1 : (P : Int) ≤ 500 := by omega
    have b2 : (Q : Int) ≤ 500 := by omega
    have b3 : (N : Int) ≤ 500 := by omega
    clear c1 c2 h
    go_enter Try.func12, Try.ntmps12
    go_wp2_with fail
    refine (C1.out _).mono ?_; rintro e w' ⟨rfl, rfl⟩
    go_wp2_with fail
    refine (C2.out _).mono ?_; rintro e w' ⟨rfl, rfl⟩
    go_wp2_with fail
    refine (C9.out _).mono ?_; rintro e w2 ⟨rfl, hb2⟩
    go_wp2
    go_ret
    exact ⟨rfl, below_step ((Below.refl _ _).alloc (Nat.le_refl _) _) hb2⟩
end Go.Proofs.Ytccmifmfegjonaa
