/- Layer 2 (varint): the walk of the law VarintOnly. -/
import Derived.Test.YtccmifmfegjonaaV2
import Derived.Test.YtccmifmfegjonaaO
import Derived.Test.YtccmifmfegjonaaW4
import Derived.Deep.RegionHeld3
namespace Go.Proofs.Ytccmifmfegjonaa
open Go.RowKit
set_option linter.unusedVariables false

set_option maxRecDepth 100000 in
set_option maxHeartbeats 2000000 in
theorem varintOnly_walk (w : World) {v : Value} {y z : Int} (hb : IsBytes w v) (wy : (Lit.int .u64 y).wf = true) (wz : (Lit.int .u64 z).wf = true) :
    Calls Try.prog 15 #[v, .int .u64 y, .int .u64 z] w fun e w' => e = .returned (.bool true) ∧ Below w.heap.size w w' := by
  obtain ⟨A, n, c, l, rfl, hnc, hc, hr⟩ := hb
  have hc : c ≤ 9223372036854775807 := hc
  have hn : n ≤ 9223372036854775807 := Nat.le_trans hnc hc
  obtain ⟨g, g'⟩ := bounds_u64 wy
  obtain ⟨f, f'⟩ := bounds_u64 wz
  obtain ⟨Y, rfl⟩ := Int.eq_ofNat_of_zero_le g
  obtain ⟨Z, rfl⟩ := Int.eq_ofNat_of_zero_le f
  have hl : l.length = n := by have := hr.len; rw [bv_length] at this; exact this
  have C9 := Lib.hid awake02_any
  have C1 := Lib.hid (get_any A n c _ l w hn hr)
  have S1 := Lib.hid (fun w => size_any Y w (by omega))
  have S2 := Lib.hid (fun w => size_any Z w (by omega))
  have SM := Lib.hid (fun (h : Y ≤ Z) => vsize_mono h)
  have hs1 : vsize Y ≤ 10 := by rw [← vsize_eq]; exact vput_le (by omega)
  have hs2 : vsize Z ≤ 10 := by rw [← vsize_eq]; exact vput_le (by omega)
  generalize vsize Y = V1 at *
  generalize vsize Z = V2 at *
  rcases vget_err l 0 0 with ⟨x, k, h⟩ | h | h
  · obtain ⟨hx, hk, r, hlr⟩ := vget_only l x k h
    rw [h] at C1
    have hd : getV (x, k, 0) = .tuple #[.int .u64 (x : Int), .int .i64 (k : Int), .int .i64 0] := rfl
    rw [hd] at C1
    clear hd h
    have hkn : k ≤ n := by rw [hk, ← hl, hlr, List.length_append]; omega
    have hk1 : 1 ≤ k := by rw [hk]; exact vput_pos x
    have CP := Lib.hid (fun (w : World) => put_any none 0 0 w.heap.size x [] w (by omega) hx Rd.nil_ (Nat.le_refl _))
    have rk : Rd w w.heap.size 1 A k (bv (vput x)) := by
      have := hr.front hkn
      rw [← bv_take, hlr, hk, List.take_left] at this
      rw [hk]; exact this
    have CS := Lib.hid (same_any (vput x))
    have hs : ∀ w, (sizeOf (Try.prog.elem 27)).run Try.prog w = .ok 1 w := fun w => by kernel_rfl
    have hsl := run_to (P := Try.prog) 27 (by kernel_rfl) hs A n c k (by omega)
    have HK := Lib.hid hk
    have hmin : min (k : Int) (n : Int) = (k : Int) := by omega
    have q1 : (1 : Int) ≤ (k : Int) := by omega
    have q2 : (k : Int) ≤ (n : Int) := by omega
    have g1 : decide ((k : Int) < 1) = false := by simp; omega
    have g2 : decide ((n : Int) < (k : Int)) = false := by simp; omega
    have g5 : ¬ (n < k) := by omega
    have g6 : ¬ ((n : Int) < (k : Int)) := by omega
    have q3 : k ≤ c := by omega
    have q4 : (k : Int) ≤ (c : Int) := by omega
    have g3 : decide (n < k) = false := by simp; omega
    have g4 : decide (k < 1) = false := by simp; omega
    have gz : decide ((Z : Int) < (Y : Int)) = decide (Z < Y) := by simp
    have hvp : (vput x).length = k := hk.symm
    have HVP := Lib.hid hvp
    clear hs hk hlr hl hvp
    go_enter Try.func15, Try.ntmps15
    go_wp2_with fail
    refine (C1.out).mono ?_; rintro e w' ⟨rfl, rfl⟩
    go_wp2
    go_region_held3 (fun _ => True) (first | exact trivial) ((first | (go_at_call 43; refine (CP.out _).mono ?_; rintro e w1 ⟨A1, c1, rfl, o1, b1⟩) | (go_at_call 31; refine (CS.out A1 A _ k c1 c w1.heap.size w1 (by have := HVP.out; simp; omega) o1.rd ((rk.below (show Below w.heap.size w w1 from ⟨b1.os, b1.tape, b1.output, b1.size, b1.block⟩)).more b1.size) (Nat.le_refl _)).mono ?_; rintro e w2 ⟨rfl, b2⟩)))
    all_goals
      rename_i b2 _
      have B2 := below_step (show Below w.heap.size w w1 from ⟨b1.os, b1.tape, b1.output, b1.size, b1.block⟩) b2
      refine (by assumption : ∀ (a : Act) (w : World), _ → _) _ _ ?_
      rcases Nat.lt_or_ge Z Y with hyz | hyz
      · have t1 : decide (Z < Y) = true := decide_eq_true hyz
        have t2 : decide ((Z : Int) < (Y : Int)) = true := by simp; exact hyz
        clear hyz
        go_wp2_with fail
        refine (C9.out _).mono ?_; rintro e w3 ⟨rfl, b3⟩
        go_wp2
        go_ret
        exact ⟨rfl, below_step B2 b3⟩
      · have t1 : decide (Z < Y) = false := decide_eq_false (by omega)
        have t2 : decide ((Z : Int) < (Y : Int)) = false := by simp; exact hyz
        have hv := SM.out hyz
        have t3 : decide (V1 ≤ V2) = true := decide_eq_true hv
        have t4 : decide ((V1 : Int) ≤ (V2 : Int)) = true := by simp; exact hv
        clear hyz hv
        go_wp2_with fail
        refine (S1.out _).mono ?_; rintro e w3 ⟨rfl, rfl⟩
        go_wp2_with fail
        refine (S2.out _).mono ?_; rintro e w3 ⟨rfl, rfl⟩
        go_wp2_with fail
        refine (C9.out _).mono ?_; rintro e w3 ⟨rfl, b3⟩
        go_wp2
        go_ret
        exact ⟨rfl, below_step B2 b3⟩
  all_goals
    rw [h] at C1
    clear h
    simp only [getV] at C1
    have e1 : ((1 : Int) == 0) = false := rfl
    have e2 : ((2 : Int) == 0) = false := rfl
    go_enter Try.func15, Try.ntmps15
    go_wp2_with fail
    refine (C1.out).mono ?_; rintro e w' ⟨rfl, rfl⟩
    go_wp2
    go_quiet (fail)
    refine (by assumption : ∀ (a : Act) (w : World), _ → _) _ _ ?_
    rcases Nat.lt_or_ge Z Y with hyz | hyz
    · have t1 : decide (Z < Y) = true := decide_eq_true hyz
      have t2 : decide ((Z : Int) < (Y : Int)) = true := by simp; exact hyz
      clear hyz
      go_wp2_with fail
      refine (C9.out _).mono ?_; rintro e w3 ⟨rfl, b3⟩
      go_wp2
      go_ret
      exact ⟨rfl, ⟨b3.os, b3.tape, b3.output, b3.size, b3.block⟩⟩
    · have t1 : decide (Z < Y) = false := decide_eq_false (by omega)
      have t2 : decide ((Z : Int) < (Y : Int)) = false := by simp; exact hyz
      have hv := SM.out hyz
      have t3 : decide (V1 ≤ V2) = true := decide_eq_true hv
      have t4 : decide ((V1 : Int) ≤ (V2 : Int)) = true := by simp; exact hv
      clear hyz hv
      go_wp2_with fail
      refine (S1.out _).mono ?_; rintro e w3 ⟨rfl, rfl⟩
      go_wp2_with fail
      refine (S2.out _).mono ?_; rintro e w3 ⟨rfl, rfl⟩
      go_wp2_with fail
      refine (C9.out _).mono ?_; rintro e w3 ⟨rfl, b3⟩
      go_wp2
      go_ret
      exact ⟨rfl, ⟨b3.os, b3.tape, b3.output, b3.size, b3.block⟩⟩
end Go.Proofs.Ytccmifmfegjonaa
