/- Numbers' texts: the document's Text. -/
import Derived.Test.YtjlmbdhjpjbneaaT1
namespace Go.Proofs.Ytjlmbdhjpjbneaa
open Go.RowKit
set_option linter.unusedVariables false
set_option maxRecDepth 100000

theorem digL_pos (n : Nat) : 1 ≤ (digL n).length := by
  by_cases h : n < 10
  · rw [digL_small h]; simp
  · rw [digL_big (by omega)]; simp
theorem rtextN_any (n : Nat) (h' : n ≤ 9223372036854775807) (w : World) : Calls Try.prog 20 #[.int .i64 n] w fun e w' => e = .returned (.string (bs (digL n))) ∧ Below w.heap.size w w' := by
  have t0 : decide ((n : Int) < 0) = false := by simp
  have hq := Lib.hid (digL_20 n (by omega))
  go_enter Try.func20, Try.ntmps20
  go_wp2
  go_loopw [0, 3] (fun x s wr => ∃ (m : Nat) (L : List UInt8), m ≤ 9223372036854775807 ∧ x = .int .i64 m ∧ s = .string (bs L) ∧ digL m ++ L = digL n ∧ Below w.heap.size w wr) (fun x _ _ => (intOf x).toNat)
  case atStart => exact ⟨n, [], h', rfl, rfl, by simp, Below.refl _ _⟩
  case round =>
    obtain ⟨m, L, hm, rfl, rfl, hL, hb⟩ := hrel
    have hl := congrArg List.length hL
    have hq1 := hq.out
    rw [List.length_append] at hl
    by_cases h9 : m < 10
    · have t1 : decide ((9 : Int) < (m : Int)) = false := by simp; omega
      have t2 : decide (9 < m) = false := by simp; omega
      have hcv := conv1 (48 + (m : Int)) (48 + m) (by omega) wr
      have hct := fun w => cat_any (P := Try.prog) [UInt8.ofNat (48 + m)] L (by simp; omega) w
      rw [← digL_small h9, hL] at hct
      rw [← digL_small h9] at hcv
      generalize hR3 : bs (digL n) = R3 at hct
      have HR3 := Lib.hid hR3
      clear hR3
      generalize bs (digL m) = R2 at *
      generalize bs L = R1 at *
      have hb1 := Lib.hid (hb.alloc (hb.size) (.cells #[.int .u8 (48 + (m : Int))] 5))
      clear hL hl hq1
      go_wp2
      go_ret
      exact ⟨by rw [HR3.out]; rfl, hb1.out⟩
    · have t1 : decide ((9 : Int) < (m : Int)) = true := by simp; omega
      have t2 : decide (9 < m) = true := by simp; omega
      have hcv := conv1 (48 + (m : Int) % 10) (48 + m % 10) (by omega) wr
      have hct := fun w => cat_any (P := Try.prog) [UInt8.ofNat (48 + m % 10)] L (by simp; omega) w
      have hb1 := Lib.hid (hb.alloc (hb.size) (.cells #[.int .u8 (48 + (m : Int) % 10)] 5))
      have hL2 : digL (m / 10) ++ ([UInt8.ofNat (48 + m % 10)] ++ L) = digL n := by rw [← hL, digL_big (by omega : 10 ≤ m)]; simp
      have HL2 := Lib.hid hL2
      clear hL hl hq1 hL2
      generalize [UInt8.ofNat (48 + m % 10)] ++ L = L2 at *
      generalize hR3 : bs L2 = R3 at hct
      have HR3 := Lib.hid hR3
      clear hR3
      generalize bs [UInt8.ofNat (48 + m % 10)] = R2 at *
      generalize bs L = R1 at *
      go_wp2
      go_roundw
      case rel => exact ⟨m / 10, L2, by omega, by go_num, by rw [HR3.out], HL2.out, hb1.out⟩
      case measure => simp [intOf]; omega
theorem rtext_any (n : Int) (h : -9223372036854775808 ≤ n) (h' : n ≤ 9223372036854775807) (w : World) : Calls Try.prog 20 #[.int .i64 n] w fun e w' => e = .returned (.string (bs (txtL n))) ∧ Below w.heap.size w w' := by
  by_cases hn : 0 ≤ n
  · obtain ⟨N, rfl⟩ := Int.eq_ofNat_of_zero_le hn
    have e : txtL (N : Int) = digL N := by unfold txtL; rw [if_neg (by omega)]; rfl
    rw [e]
    exact rtextN_any N (by omega) w
  · have hneg : ∀ (k : Nat) (n : Int), n.natAbs = k → n < 0 → -9223372036854775808 ≤ n → ∀ w : World, Calls Try.prog 20 #[.int .i64 n] w fun e w' => e = .returned (.string (bs (txtL n))) ∧ Below w.heap.size w w' := by
      intro k
      induction k using Nat.strongRecOn with
      | ind k ih =>
        intro n hk hn hlo w
        have hT : txtL n = [45] ++ digL k := by unfold txtL; rw [if_pos hn, hk]; rfl
        rw [hT]
        have hlen := digL_20 k (by omega)
        have t0 : decide (n < 0) = true := decide_eq_true hn
        by_cases h10 : k < 10
        · have t1 : decide ((-10 : Int) < n) = true := decide_eq_true (by omega)
          have C1 := Lib.hid (fun w => rtextN_any k (by omega) w)
          have hct := fun w => cat_any (P := Try.prog) [45] (digL k) (by simp; omega) w
          have e1 : IntKind.i64.wrap (-n) = (k : Int) := by rw [IntWalk.i64_in _ (by omega)]; omega
          have e2 : IntKind.i64.wrap (0 - n) = (k : Int) := by rw [IntWalk.i64_in _ (by omega)]; omega
          have hb : bs [45] = ⟨#[45]⟩ := rfl
          rw [hb] at hct
          generalize bs ([45] ++ digL k) = R3 at *
          generalize bs (digL k) = R2 at *
          clear ih hlen hk hT
          go_enter Try.func20, Try.ntmps20
          go_wp2_with fail
          refine (C1.out _).mono ?_; rintro e w1 ⟨rfl, b1⟩
          go_wp2
          go_ret
          exact ⟨rfl, b1⟩
        · have hq : n.tdiv 10 = -((k / 10 : Nat) : Int) := by
            have : n = -(k : Int) := by omega
            subst this
            rw [Int.neg_tdiv, Int.ofNat_tdiv]
            rfl
          have hr : n.tmod 10 = -((k % 10 : Nat) : Int) := by
            have : n = -(k : Int) := by omega
            subst this
            rw [Int.neg_tmod, Int.ofNat_tmod]
            rfl
          have t1 : decide ((-10 : Int) < n) = false := decide_eq_false (by omega)
          have e1 : IntKind.i64.wrap (n.tdiv 10) = n.tdiv 10 := IntWalk.i64_in _ (by omega)
          have e2 : IntKind.i64.wrap (n.tmod 10) = n.tmod 10 := IntWalk.i64_in _ (by omega)
          have e3 : -n.tmod 10 = ((k % 10 : Nat) : Int) := by omega
          have e4 : IntKind.i64.wrap ((k % 10 : Nat) : Int) = ((k % 10 : Nat) : Int) := IntWalk.i64_in _ (by omega)
          have hx : (-((k / 10 : Nat) : Int)).natAbs = k / 10 := by omega
          have C1 := Lib.hid (ih (k / 10) (by omega) (n.tdiv 10) (by rw [hq]; exact hx) (by omega) (by omega))
          have C2 := Lib.hid (fun w => rtextN_any (k % 10) (by omega) w)
          have hT1 : txtL (n.tdiv 10) = [45] ++ digL (k / 10) := by unfold txtL; rw [if_pos (by omega), hq, hx]; rfl
          rw [hT1] at C1
          have hct := fun w => cat_any (P := Try.prog) ([45] ++ digL (k / 10)) (digL (k % 10)) (by have := digL_20 (k / 10) (by omega); have := digL_20 (k % 10) (by omega); simp; omega) w
          have hd : ([45] ++ digL (k / 10)) ++ digL (k % 10) = [45] ++ digL k := by rw [digL_big (by omega : 10 ≤ k), digL_small (by omega : k % 10 < 10)]; simp
          rw [hd] at hct
          generalize bs ([45] ++ digL k) = R3 at *
          generalize bs ([45] ++ digL (k / 10)) = R1 at *
          generalize bs (digL (k % 10)) = R2 at *
          generalize k % 10 = r at *
          clear ih hlen hk hT hd hT1 hx hq hr
          go_enter Try.func20, Try.ntmps20
          go_wp2_with fail
          refine (C1.out _).mono ?_; rintro e w1 ⟨rfl, b1⟩
          go_wp2_with fail
          refine (C2.out _).mono ?_; rintro e w2 ⟨rfl, b2⟩
          go_wp2
          go_ret
          exact ⟨rfl, below_step b1 b2⟩
    exact hneg _ n rfl (by omega) h w
end Go.Proofs.Ytjlmbdhjpjbneaa
