/- Layer 1 (bits): the reference's Width; Field, With; the walks of the laws BitsNumbers, BitsTurns, BitsFields. -/
import Derived.Test.YtccmifmfegjonaaB5
import Derived.Test.YtccmifmfegjonaaO
namespace Go.Proofs.Ytccmifmfegjonaa
open Go.RowKit
set_option linter.unusedVariables false

theorem quietL {P : Program} {f : FuncId} {args : Array Value} {w : World} {n : Nat} {v : Value}
    (h : Calls P f args (w.drewN n) fun e w' => e = .returned v ∧ w.drewN n = w') : Calls P f args (w.drewN n) fun e w'' => e = .returned v ∧ ∃ m, w'' = w.drewN m :=
  h.mono fun _ _ ⟨he, hm⟩ => ⟨he, n, hm.symm⟩
theorem quietLA {P : Program} {f : FuncId} {args : Array Value} {w : World} {a n : Nat} {v : Value}
    (h : Calls P f args (w.drewN (a + n)) fun e w' => e = .returned v ∧ w.drewN (a + n) = w') :
    Calls P f args (w.drewN (a + n)) fun e w'' => e = .returned v ∧ ∃ m, w'' = w.drewN (a + m) :=
  h.mono fun _ _ ⟨he, hm⟩ => ⟨he, n, hm.symm⟩

theorem rwidth_any (m : Nat) (hm : m < 18446744073709551616) (w : World) :
    Calls Try.prog 37 #[.int .u64 m] w fun e w' => e = .returned (.int .i64 ((widN m : Nat) : Int)) ∧ w = w' := by
  go_enter Try.func37, Try.ntmps37
  go_wp2
  go_loop [3, 4] (fun out i => ∃ j : Nat, j ≤ 64 ∧ i = .int .i64 j ∧ out = .int .i64 ((widN (m % 2 ^ j) : Nat) : Int)) (fun _ i => 64 - (intOf i).toNat)
  case atStart => exact ⟨0, by omega, rfl, by rw [Nat.pow_zero, Nat.mod_one]; rfl⟩
  case round =>
    obtain ⟨j, hj, rfl, rfl⟩ := hrel
    by_cases hlt : j < 64
    · have hs := widN_mod m j
      have c := rbit_any m j hm (by omega)
      generalize m.testBit j = b at *
      have C := Lib.hid c
      have HS := Lib.hid hs
      clear c hs
      cases b
      · go_wp2_with (go_at_call 35; refine (C.out _).mono ?_; rintro e w' ⟨rfl, rfl⟩)
        go_round
        case rel => exact ⟨j + 1, by omega, by go_num, by rw [HS.out]; rfl⟩
        case measure => simp [intOf]; omega
      · go_wp2_with (go_at_call 35; refine (C.out _).mono ?_; rintro e w' ⟨rfl, rfl⟩)
        go_round
        case rel => exact ⟨j + 1, by omega, by go_num, by rw [HS.out]; go_num⟩
        case measure => simp [intOf]; omega
    · have : j = 64 := by omega
      subst this
      rw [Nat.mod_eq_of_lt (show m < 2 ^ 64 from hm)]
      go_wp2
      go_ret
      exact ⟨rfl, rfl⟩

theorem within_yes (p q : Nat) (hp : p ≤ 63) (h1 : 1 ≤ q) (hq : q ≤ 64 - p) (w : World) :
    Calls Try.prog 56 #[.int .i64 p, .int .i64 q] w fun e w' => e = .returned (.bool true) ∧ w = w' := by
  have h64 : (q : Int) ≤ 64 - (p : Int) := by omega
  go_enter Try.func56, Try.ntmps56
  go_wp2
  go_ret
  exact ⟨ret_bool (by simp), rfl⟩
theorem within_no (p q : Int) (h : p < 0 ∨ 63 < p ∨ q < 1 ∨ 64 - p < q) (w : World) :
    Calls Try.prog 56 #[.int .i64 p, .int .i64 q] w fun e w' => e = .returned (.bool false) ∧ w = w' := by
  by_cases a1 : p < 0
  · clear h
    have d1 : decide (0 ≤ p) = false := by simp; omega
    go_enter Try.func56, Try.ntmps56
    go_wp2
    go_ret
    exact ⟨rfl, rfl⟩
  · have d1 : decide (0 ≤ p) = true := by simp; omega
    by_cases a2 : 63 < p
    · clear h
      have d2 : decide (p ≤ 63) = false := by simp; omega
      go_enter Try.func56, Try.ntmps56
      go_wp2
      go_ret
      exact ⟨rfl, rfl⟩
    · have d2 : decide (p ≤ 63) = true := by simp; omega
      by_cases a3 : q < 1
      · clear h
        have d3 : decide (1 ≤ q) = false := by simp; omega
        go_enter Try.func56, Try.ntmps56
        go_wp2
        go_ret
        exact ⟨rfl, rfl⟩
      · have d3 : decide (1 ≤ q) = true := by simp; omega
        have a4 : 64 - p < q := by omega
        clear h
        have d4 : decide (q ≤ 64 - p) = false := by simp; omega
        go_enter Try.func56, Try.ntmps56
        go_wp2
        go_ret
        exact ⟨rfl, rfl⟩
theorem mask_any (q : Nat) (h1 : 1 ≤ q) (hq : q ≤ 64) (w : World) :
    Calls Try.prog 57 #[.int .i64 q] w fun e w' => e = .returned (.int .u64 ((2 ^ q - 1 : Nat) : Int)) ∧ w = w' := by
  have e : (18446744073709551615 : Nat) / 2 ^ (64 - q) = 2 ^ q - 1 := by
    have hp : 2 ^ 64 = 2 ^ q * 2 ^ (64 - q) := by rw [← Nat.pow_add, show q + (64 - q) = 64 by omega]
    have hq0 := Nat.two_pow_pos q
    have hr0 := Nat.two_pow_pos (64 - q)
    generalize 2 ^ q = X at *
    generalize 2 ^ (64 - q) = Y at *
    have : (18446744073709551615 : Nat) = Y * (X - 1) + (Y - 1) := by
      obtain ⟨x, rfl⟩ : ∃ x, X = x + 1 := ⟨X - 1, by omega⟩
      obtain ⟨y, rfl⟩ : ∃ y, Y = y + 1 := ⟨Y - 1, by omega⟩
      simp only [Nat.add_sub_cancel]
      have : (x + 1) * (y + 1) = (y + 1) * x + (y + 1) := by rw [Nat.mul_comm, Nat.mul_add, Nat.mul_one]
      omega
    rw [this, Nat.mul_add_div hr0, Nat.div_eq_of_lt (by omega)]
    rfl
  have HE := Lib.hid e
  clear e
  go_enter Try.func57, Try.ntmps57
  go_wp2
  go_ret
  refine ⟨ret_int ?_, rfl⟩
  rw [← HE.out]
  simp

theorem field_no (n p q : Int) (h : p < 0 ∨ 63 < p ∨ q < 1 ∨ 64 - p < q) (w : World) :
    Calls Try.prog 38 #[.int .u64 n, .int .i64 p, .int .i64 q] w fun e w' => e = .returned (.tuple #[.int .u64 0, .int .i64 4]) ∧ w = w' := by
  have C := Lib.hid (within_no p q h)
  clear h
  go_enter Try.func38, Try.ntmps38
  go_wp2_with (go_at_call 56; refine (C.out _).mono ?_; rintro e w' ⟨rfl, rfl⟩)
  go_ret2
  exact ⟨rfl, rfl⟩
theorem with_no (n p q v : Int) (h : p < 0 ∨ 63 < p ∨ q < 1 ∨ 64 - p < q) (w : World) :
    Calls Try.prog 39 #[.int .u64 n, .int .i64 p, .int .i64 q, .int .u64 v] w fun e w' => e = .returned (.tuple #[.int .u64 0, .int .i64 4]) ∧ w = w' := by
  have C := Lib.hid (within_no p q h)
  clear h
  go_enter Try.func39, Try.ntmps39
  go_wp2_with (go_at_call 56; refine (C.out _).mono ?_; rintro e w' ⟨rfl, rfl⟩)
  go_ret2
  exact ⟨rfl, rfl⟩
theorem with_noroom (n p q v : Nat) (hp : p ≤ 63) (h1 : 1 ≤ q) (hq : q ≤ 64 - p) (hv : v < 18446744073709551616) (hr : roomB v q = false) (w : World) :
    Calls Try.prog 39 #[.int .u64 n, .int .i64 p, .int .i64 q, .int .u64 v] w fun e w' => e = .returned (.tuple #[.int .u64 0, .int .i64 4]) ∧ w = w' := by
  have C := Lib.hid (within_yes p q hp h1 hq)
  have c2 := room_any v q hv (by omega)
  rw [hr] at c2
  have C2 := Lib.hid c2
  clear c2 hr
  go_enter Try.func39, Try.ntmps39
  go_wp2_with (first
    | (go_at_call 56; refine (C.out _).mono ?_; rintro e w' ⟨rfl, rfl⟩)
    | (go_at_call 53; refine (C2.out _).mono ?_; rintro e w' ⟨rfl, rfl⟩))
  go_ret2
  exact ⟨rfl, rfl⟩
theorem field_bits (n p q : Nat) (hn : n < 18446744073709551616) (hp : p ≤ 63) (h1 : 1 ≤ q) (hq : q ≤ 64 - p) :
    bits .and .u64 ((n : Int) / 2 ^ p) ((2 ^ q - 1 : Nat) : Int) = ((fieldN n p q : Nat) : Int) := by
  have e : ((n : Int) / 2 ^ p) = ((n / 2 ^ p : Nat) : Int) := by simp
  have hm : 2 ^ q - 1 < 18446744073709551616 := by
    have : 2 ^ q ≤ 2 ^ 64 := Nat.pow_le_pow_right (by omega) (by omega)
    omega
  rw [e, u64_and_nat _ _ (Nat.lt_of_le_of_lt (Nat.div_le_self _ _) hn) hm, Nat.and_two_pow_sub_one_eq_mod]
  rfl
theorem field_any (n p q : Nat) (hn : n < 18446744073709551616) (hp : p ≤ 63) (h1 : 1 ≤ q) (hq : q ≤ 64 - p) (w : World) :
    Calls Try.prog 38 #[.int .u64 n, .int .i64 p, .int .i64 q] w fun e w' => e = .returned (.tuple #[.int .u64 ((fieldN n p q : Nat) : Int), .int .i64 0]) ∧ w = w' := by
  have C := Lib.hid (within_yes p q hp h1 hq)
  have C2 := Lib.hid (mask_any q h1 (by omega))
  have HF := Lib.hid (field_bits n p q hn hp h1 hq)
  generalize 2 ^ q - 1 = M at *
  go_enter Try.func38, Try.ntmps38
  go_wp2_with (first
    | (go_at_call 56; refine (C.out _).mono ?_; rintro e w' ⟨rfl, rfl⟩)
    | (go_at_call 57; refine (C2.out _).mono ?_; rintro e w' ⟨rfl, rfl⟩))
  rw [← HF.out]
  go_ret2
  exact ⟨rfl, rfl⟩
theorem with_bits (n p q v : Nat) (hn : n < 18446744073709551616) (hp : p ≤ 63) (hq : q ≤ 64 - p) (hv : v < 2 ^ q) :
    bits .or .u64 (bits .andNot .u64 (n : Int) (IntKind.u64.wrap (((2 ^ q - 1 : Nat) : Int) * 2 ^ p))) (IntKind.u64.wrap ((v : Int) * 2 ^ p)) = ((withN n p q v : Nat) : Int) := by
  have hm := mask_lt p q hq hp
  have hs := shl_lt v p q hv hq hp
  have e1 : ((2 ^ q - 1 : Nat) : Int) * 2 ^ p = (((2 ^ q - 1) * 2 ^ p : Nat) : Int) := by
    generalize 2 ^ q - 1 = M
    simp
  have e2 : ((v : Int) * 2 ^ p) = ((v * 2 ^ p : Nat) : Int) := by simp
  have w1 : IntKind.u64.wrap (((2 ^ q - 1) * 2 ^ p : Nat) : Int) = (((2 ^ q - 1) * 2 ^ p : Nat) : Int) := by
    rw [IntKind.wrap_u64]
    generalize (2 ^ q - 1) * 2 ^ p = M at *
    omega
  have w2 : IntKind.u64.wrap ((v * 2 ^ p : Nat) : Int) = ((v * 2 ^ p : Nat) : Int) := by
    rw [IntKind.wrap_u64]
    generalize v * 2 ^ p = M at *
    omega
  rw [e1, e2, w1, w2, u64_andNot_nat n _ hn hm, u64_or_nat _ _ (Nat.lt_of_le_of_lt Nat.and_le_left hn) hs]
  rfl
theorem with_any (n p q v : Nat) (hn : n < 18446744073709551616) (hp : p ≤ 63) (h1 : 1 ≤ q) (hq : q ≤ 64 - p) (hv' : v < 18446744073709551616) (hv : v < 2 ^ q) (w : World) :
    Calls Try.prog 39 #[.int .u64 n, .int .i64 p, .int .i64 q, .int .u64 v] w fun e w' => e = .returned (.tuple #[.int .u64 ((withN n p q v : Nat) : Int), .int .i64 0]) ∧ w = w' := by
  have C := Lib.hid (within_yes p q hp h1 hq)
  have c2 := room_any v q hv' (by omega)
  rw [(roomB_iff v q hv').2 hv] at c2
  have C2 := Lib.hid c2
  have C3 := Lib.hid (mask_any q h1 (by omega))
  have HF := Lib.hid (with_bits n p q v hn hp hq hv)
  clear c2 hv
  generalize 2 ^ q - 1 = M at *
  go_enter Try.func39, Try.ntmps39
  go_wp2_with (first
    | (go_at_call 56; refine (C.out _).mono ?_; rintro e w' ⟨rfl, rfl⟩)
    | (go_at_call 53; refine (C2.out _).mono ?_; rintro e w' ⟨rfl, rfl⟩)
    | (go_at_call 57; refine (C3.out _).mono ?_; rintro e w' ⟨rfl, rfl⟩))
  rw [← HF.out]
  go_ret2
  exact ⟨rfl, rfl⟩
theorem bitsNumbers_walk (w : World) {v : Value} (hb : IsBytes w v) :
    Calls Try.prog 7 #[v] w fun e w' => e = .returned (.bool true) ∧ Below w.heap.size w w' := by
  obtain ⟨A, n, c, l, rfl, hnc, hc, hr⟩ := hb
  simp only [maxLen] at hc
  have C9 := Lib.hid awake01_any
  by_cases hn : n = 0 ∨ 8 < n
  · have C1 := Lib.hid (number_no A n c w hn (by omega))
    rcases hn with rfl | hn
    · go_enter Try.func7, Try.ntmps7
      go_wp2_with fail
      refine (C1.out).mono ?_; rintro e w' ⟨rfl, rfl⟩
      go_wp2_with fail
      refine (C9.out _).mono ?_; rintro e w2 ⟨rfl, hb2⟩
      go_wp2
      go_ret
      exact ⟨rfl, hb2⟩
    · have h0 : ((n : Int) == 0) = false := by simp; omega
      have h0' : ¬ n = 0 := by omega
      go_enter Try.func7, Try.ntmps7
      go_wp2_with fail
      refine (C1.out).mono ?_; rintro e w' ⟨rfl, rfl⟩
      go_wp2_with fail
      refine (C9.out _).mono ?_; rintro e w2 ⟨rfl, hb2⟩
      go_wp2
      go_ret
      exact ⟨rfl, hb2⟩
  · have hl : l.length = n := by have := hr.len; rw [bv_length] at this; exact this
    have h0 : ((n : Int) == 0) = false := by simp; omega
    have hlt := ofLe_lt l
    rw [hl] at hlt
    have h256 : ofLe l < 18446744073709551616 := Nat.lt_of_lt_of_le hlt (show 256 ^ n ≤ 256 ^ 8 from Nat.pow_le_pow_right (by omega) (by omega))
    have c2 := bytes_any (ofLe l) n h256 (by omega) (by omega) (by rw [← pow256]; exact hlt)
    rw [← hl, leB_ofLe, hl] at c2
    have C1 := Lib.hid (number_any A n c _ l w (by omega) (by omega) hr)
    have C2 := Lib.hid c2
    have C3 := Lib.hid (rnumber_any A n c w.heap.size l)
    have C4 := Lib.hid (same_any l)
    clear c2 hlt
    generalize ofLe l = X at *
    have hX : ((X : Int) == (X : Int)) = true := by simp
    subst hl
    go_enter Try.func7, Try.ntmps7
    go_wp2_with fail
    refine (C1.out).mono ?_; rintro e w' ⟨rfl, rfl⟩
    go_wp2_with fail
    refine (C2.out _).mono ?_; rintro e w1 ⟨A2, c2, rfl, o2, b2⟩
    go_wp2_with fail
    refine (C3.out _ (by omega) (hr.below b2)).mono ?_; rintro e w' ⟨rfl, rfl⟩
    go_wp2_with fail
    refine (C4.out A A2 _ _ _ _ _ _ (by omega) ((hr.below b2).more b2.size) o2.rd (Nat.le_refl _)).mono ?_; rintro e w4 ⟨rfl, b4⟩
    go_wp2_with fail
    refine (C9.out _).mono ?_; rintro e w5 ⟨rfl, b5⟩
    go_wp2
    go_ret
    exact ⟨rfl, below_step (below_step b2 b4) b5⟩
set_option maxHeartbeats 400000 in
theorem bitsTurns_walk (w : World) {n b m : Int} (wn : (Lit.int .u32 n).wf = true) (wb : (Lit.int .i64 b).wf = true) (wm : (Lit.int .u64 m).wf = true) :
    Calls Try.prog 8 #[.int .u32 n, .int .i64 b, .int .u64 m] w fun e w' => e = .returned (.bool true) ∧ Below w.heap.size w w' := by
  obtain ⟨h1, h2⟩ := bounds_i64 wb
  obtain ⟨g, g'⟩ := bounds_u32 wn
  obtain ⟨f, f'⟩ := bounds_u64 wm
  obtain ⟨N, rfl⟩ := Int.eq_ofNat_of_zero_le g
  obtain ⟨M, rfl⟩ := Int.eq_ofNat_of_zero_le f
  have c1 := turn_any N b (by omega) h1 h2
  obtain ⟨k, hk⟩ := Int.eq_ofNat_of_zero_le (show 0 ≤ b % 32 by omega)
  have hk32 : k < 32 := by omega
  rw [hk, Int.toNat_natCast] at c1
  have C1 := Lib.hid c1
  have C2 := Lib.hid (width_any M (by omega))
  have C3 := Lib.hid (rwidth_any M (by omega))
  have C9 := Lib.hid awake01_any
  have HT := fun i hi => Lib.hid (turnN_bit N k i (by omega) hk32 hi)
  have hlt := turnN_lt N k (by omega) hk32
  have hW : ((widN M : Int) == (widN M : Int)) = true := by simp
  clear c1
  generalize turnN N k = T at *
  generalize widN M = W at *
  have go : ∀ (i : Nat) (x : Int) (w' : World), i < 32 → x = ((i : Int) + (k : Int)) % 32 → Calls Try.prog 35 #[.int .u64 T, .int .i64 x] w' fun e w'' => e = .returned (.bool (N.testBit i)) ∧ w' = w'' := by
    intro i x w' hi hx
    have h := rbit_any T ((i + k) % 32) (by omega) (by omega) w'
    rw [(HT i hi).out] at h
    have e : ((((i + k) % 32 : Nat)) : Int) = x := by omega
    rw [e] at h
    exact h
  have GO := Lib.hid go
  have RB := Lib.hid (fun (i : Nat) (w' : World) (hi : i < 32) => rbit_any N i (by omega) (by omega) w')
  have HK := Lib.hid hk
  clear go HT hk
  have c3 : 0 ≤ b ∨ (b < 0 ∧ b.tmod 32 < 0) ∨ (b < 0 ∧ b.tmod 32 = 0) := by
    rcases Int.lt_or_le b 0 with h | h
    · right
      have : b.tmod 32 = -((-b) % 32) := by
        rw [← Int.tmod_eq_emod_of_nonneg (by omega), Int.neg_tmod, Int.neg_neg]
      omega
    · exact .inl h
  have ht : b < 0 → b.tmod 32 = -((-b) % 32) := by
    intro h
    rw [← Int.tmod_eq_emod_of_nonneg (by omega), Int.neg_tmod, Int.neg_neg]
  have HTM := Lib.hid ht
  clear ht
  rcases c3 with hb0 | ⟨hb0, hb1⟩ | ⟨hb0, hb1⟩
  · go_enter Try.func8, Try.ntmps8
    go_wp2_with fail
    refine (C1.out _).mono ?_; rintro e w' ⟨rfl, rfl⟩
    go_wp2
    go_loop [9] (fun i => ∃ j : Nat, j ≤ 32 ∧ i = .int .i64 j) (fun i => 32 - (intOf i).toNat)
    case atStart => exact ⟨0, by omega, rfl⟩
    case round =>
      obtain ⟨j, hj, rfl⟩ := hrel
      by_cases hlt : j < 32
      · go_wp2_with fail
        refine (GO.out j _ _ hlt (by have := HK.out; omega)).mono ?_; rintro e w' ⟨rfl, rfl⟩
        go_wp2_with fail
        refine (RB.out j _ hlt).mono ?_; rintro e w' ⟨rfl, rfl⟩
        have hbb : (N.testBit j != N.testBit j) = false := by simp
        generalize N.testBit j = bb at *
        go_wp2
        go_round
        case rel => exact ⟨j + 1, by omega, by go_num⟩
        case measure => simp [intOf]; omega
      · go_wp2_with fail
        refine (C2.out _).mono ?_; rintro e w' ⟨rfl, rfl⟩
        go_wp2_with fail
        refine (C3.out _).mono ?_; rintro e w' ⟨rfl, rfl⟩
        go_wp2_with fail
        refine (C9.out _).mono ?_; rintro e w2 ⟨rfl, hb2⟩
        go_wp2
        go_ret
        exact ⟨rfl, hb2⟩
  all_goals
    obtain ⟨t, ht⟩ : ∃ t, b.tmod 32 = t := ⟨_, rfl⟩
    have hk2 : (0 ≤ t → t = (k : Int)) ∧ (t < 0 → t + 32 = (k : Int)) := by
      have := HTM.out hb0
      have := HK.out
      omega
    have hT0 : -32 < t := by have := HTM.out hb0; omega
    rw [ht] at hb1
    have HK2 := Lib.hid hk2
    clear hk2
    go_enter Try.func8, Try.ntmps8
    go_wp2_with fail
    refine (C1.out _).mono ?_; rintro e w' ⟨rfl, rfl⟩
    clear ht
    go_wp2
    go_loop [9] (fun i => ∃ j : Nat, j ≤ 32 ∧ i = .int .i64 j) (fun i => 32 - (intOf i).toNat)
    case atStart => exact ⟨0, by omega, rfl⟩
    case round =>
      obtain ⟨j, hj, rfl⟩ := hrel
      by_cases hlt : j < 32
      · go_wp2_with fail
        refine (GO.out j _ _ hlt (by have := HK2.out; omega)).mono ?_; rintro e w' ⟨rfl, rfl⟩
        go_wp2_with fail
        refine (RB.out j _ hlt).mono ?_; rintro e w' ⟨rfl, rfl⟩
        have hbb : (N.testBit j != N.testBit j) = false := by simp
        generalize N.testBit j = bb at *
        go_wp2
        go_round
        case rel => exact ⟨j + 1, by omega, by go_num⟩
        case measure => simp [intOf]; omega
      · go_wp2_with fail
        refine (C2.out _).mono ?_; rintro e w' ⟨rfl, rfl⟩
        go_wp2_with fail
        refine (C3.out _).mono ?_; rintro e w' ⟨rfl, rfl⟩
        go_wp2_with fail
        refine (C9.out _).mono ?_; rintro e w2 ⟨rfl, hb2⟩
        go_wp2
        go_ret
        exact ⟨rfl, hb2⟩
end Go.Proofs.Ytccmifmfegjonaa
