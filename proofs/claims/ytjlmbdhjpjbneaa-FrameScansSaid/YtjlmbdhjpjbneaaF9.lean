/- Layer 4 (frame): the walk of the law FramePuts. -/
import Derived.Test.YtjlmbdhjpjbneaaF8
namespace Go.Proofs.Ytjlmbdhjpjbneaa
open Go.RowKit
set_option linter.unusedVariables false
set_option maxRecDepth 100000

theorem vsize_big (k : Nat) (h : 128 ≤ k) : vsize k = vsize (k / 128) + 1 := by
  rw [← vsize_eq, vput_big h, List.length_cons, vsize_eq]
theorem vsize_small (k : Nat) (h : k < 128) : vsize k = 1 := by
  rw [← vsize_eq, vput_small h]; rfl
theorem frm_len (l : List UInt8) : (frm l).length = vsize l.length + l.length + 4 := by
  unfold frm
  rw [List.length_append, List.length_append, leB_length, vsize_eq]
theorem framePuts_far (w : World) (A A' : Option Addr) (n c m c' : Nat) (k : Int) (h : 1000 < n ∨ 1000 < m) :
    Calls Try.prog 9 #[.slice A n c, .slice A' m c', .int .i64 k] w fun e w' => e = .returned (.bool true) ∧ Below w.heap.size w w' := by
  have C9 := Lib.hid awake04_any
  by_cases h1 : 1000 < n
  · clear h
    go_enter Try.func9, Try.ntmps9
    go_wp2_with fail
    refine (C9.out _).mono ?_; rintro e w2 ⟨rfl, hb2⟩
    go_wp2
    go_ret
    exact ⟨rfl, hb2⟩
  · have h2 : 1000 < m := by omega
    clear h
    go_enter Try.func9, Try.ntmps9
    go_wp2_with fail
    refine (C9.out _).mono ?_; rintro e w2 ⟨rfl, hb2⟩
    go_wp2
    go_ret
    exact ⟨rfl, hb2⟩
set_option maxHeartbeats 2000000 in
theorem framePuts_near (w : World) (A A' : Option Addr) (n c m c' : Nat) (lb l : List UInt8) (k : Int) (hr : Rd w w.heap.size 1 A n (bv lb)) (hr' : Rd w w.heap.size 1 A' m (bv l)) (hn : n ≤ 1000) (hm : m ≤ 1000)
    (k1 : -9223372036854775808 ≤ k) (k2 : k ≤ 9223372036854775807) :
    Calls Try.prog 9 #[.slice A n c, .slice A' m c', .int .i64 k] w fun e w' => e = .returned (.bool true) ∧ Below w.heap.size w w' := by
  obtain ⟨i0, hi, hz0, hz1, hz2⟩ := info_parts Try.info_by
  have el : l.length = m := by have := hr'.len; rwa [bv_length] at this
  have elb : lb.length = n := by have := hr.len; rwa [bv_length] at this
  have C9 := Lib.hid awake04_any
  have C1 := Lib.hid (fput_any A A' n m c c' lb l w hr hr' (by omega) (by omega))
  have C2 := Lib.hid (fun w (h : Rd w w.heap.size 1 A' m (bv l)) => rfput_any A' m c' l w h (by omega))
  have C3 := Lib.hid (fun w => fsize_any k w k1 k2)
  have C4 := fun w => fsize_any (m : Int) w (by omega) (by omega)
  have hsz : szI (m : Int) = ((frm l).length : Int) := by
    unfold szI
    rw [if_pos (by omega), frm_len, el]
    simp
  rw [hsz] at C4
  have C4' := Lib.hid C4
  have hfl := frm_len l
  have hvs := vsize_le l.length (by omega)
  have hfb : (frm l).length ≤ 1014 := by omega
  have hsk : szI k = if 0 ≤ k ∧ k ≤ 1048576 then (vsize k.toNat : Int) + k + 4 else 0 := rfl
  have hcat : (lb ++ frm l).length = n + (frm l).length := by rw [List.length_append, elb]
  clear hsz C4 hfl hvs el
  generalize frm l = FL at *
  generalize szI k = SK at *
  have ecat := Lib.hid hcat
  have elb' := Lib.hid elb
  clear elb
  have d1 : decide ((1000 : Int) < (n : Int)) = false := by simp; omega
  have d2 : decide ((1000 : Int) < (m : Int)) = false := by simp; omega
  by_cases hk : 0 ≤ k ∧ k ≤ 1048576
  · rw [if_pos hk] at hsk
    obtain ⟨K, rfl⟩ := Int.eq_ofNat_of_zero_le hk.1
    have hK : K ≤ 1048576 := by omega
    rw [Int.toNat_natCast] at hsk
    clear hk
    go_enter Try.func9, Try.ntmps9
    go_wp2_with fail
    refine (C1.out).mono ?_; rintro e w1 ⟨A1, c1, rfl, o1, b1⟩; rw [hcat] at o1 ⊢; clear hcat
    have HZ1 := Lib.hid b1.size
    have hz1' := b1.size
    go_wp2
    go_loop [9, 10] (fun x y => ∃ W q : Nat, q ≤ 1048576 ∧ x = .int .i64 W ∧ y = .int .i64 q ∧ W + vsize q = K + 4 + vsize K) (fun _ y => (intOf y).toNat)
    case atStart => exact ⟨K + 4, K, hK, by simp, rfl, rfl⟩
    case round =>
      obtain ⟨W, q, hq, rfl, rfl, hW⟩ := hrel
      have hvK := vsize_le K (by omega)
      by_cases hlt : 127 < q
      · have t1 : (127 : Int) < (q : Int) := by omega
        have hv := vsize_big q (by omega)
        go_wp2
        go_round
        case rel => exact ⟨W + 1, q / 128, by omega, by go_num, by go_num, by omega⟩
        case measure => simp [intOf]; omega
      · have t1 : ¬ ((127 : Int) < (q : Int)) := by omega
        rw [vsize_small q (by omega)] at hW
        have hSK : SK = ((W + 1 : Nat) : Int) := by omega
        subst hSK
        clear hsk
        go_wp2_with (
          at_builtin
          refine wpList_append_rdw _ rfl (.tmp 47) (.tmp 48) 62 rfl w1.heap.size 5 i0 (.int .u8 0) 1 1 Try.underlying62 hi hz0 hz1 hz2 rfl (by decide) (by decide) _ 0 0 [] rfl (own_e0 _ _) w.heap.size A n c (bv lb) rfl ((hr.below b1).alloc (by omega) _) (bv_oneCell lb) (by omega) (by simp) ?_
          intro A2 c2 w2 o2 b2
          simp only [Nat.zero_add, List.nil_append] at o2)
        have bA : Below w1.heap.size w1 w2 := ((Below.refl _ _).alloc (Nat.le_refl _) _).trans b2
        have B2 := Lib.hid (below_step b1 bA)
        have O1 := Lib.hid (o1.rd.below bA)
        have O2 := Lib.hid o2
        have S2 := Lib.hid bA.size
        have C2' := Lib.hid (C2.out _ ((hr'.below B2.out).more B2.out.size))
        clear o1 o2 b1 b2 bA C2
        refine (C2'.out).mono ?_; rintro e w3 ⟨A3, c3, rfl, o3, b3⟩
        have hz3 := b3.size
        have O1' := Lib.hid (O1.out.below (below_of_le b3 S2.out))
        have o2' := O2.out.below b3 (Nat.le_refl _)
        have B3 := Lib.hid (below_step B2.out b3)
        have hz2' := S2.out
        clear O1 O2 B2 S2 C2'
        go_wp2_with (
          at_builtin
          refine wpList_append_rdw _ rfl (.tmp 49) (.tmp 51) 62 rfl w1.heap.size 5 i0 (.int .u8 0) 1 1 Try.underlying62 hi hz0 hz1 hz2 rfl (by decide) (by decide) A2 n c2 (bv lb) rfl o2' w3.heap.size A3 FL.length c3 (bv FL) rfl o3.rd (bv_oneCell _) (by omega) (by omega) ?_
          intro A4 c4 w4 o4 b4
          rw [← bv_append] at o4)
        have hz4 := b4.size
        have B4 := Lib.hid (B3.out.trans (below_of_le b4 HZ1.out))
        have CS := Lib.hid (same_any (lb ++ FL) A1 A4 (n + FL.length) (n + FL.length) c1 c4 w4.heap.size w4 (by omega) ((O1'.out.below b4).more (by omega)) o4.rd (Nat.le_refl _))
        clear o2' o3 b3 o4 b4 O1' B3
        refine (CS.out).mono ?_; rintro e w5 ⟨rfl, b5⟩
        go_wp2_with fail
        refine (C3.out _).mono ?_; rintro e w6 ⟨rfl, rfl⟩
        go_wp2_with fail
        refine (C4'.out _).mono ?_; rintro e w6 ⟨rfl, rfl⟩
        have B5 := Lib.hid (below_step B4.out b5)
        clear b5 B4 C3 C4' ecat
        generalize FL.length = LF at *
        generalize hM : n + LF = M at *
        have t9 : (M : Int) - (n : Int) = (LF : Int) := by omega
        clear hM
        go_wp2_with fail
        refine (C9.out _).mono ?_; rintro e w6 ⟨rfl, b6⟩
        go_wp2
        go_ret
        exact ⟨rfl, below_step B5.out b6⟩
  · rw [if_neg hk] at hsk
    subst hsk
    by_cases hk0 : k < 0
    · have d3 : decide ((0 : Int) ≤ k) = false := by simp; omega
      clear hk
      go_enter Try.func9, Try.ntmps9
      go_wp2_with fail
      refine (C1.out).mono ?_; rintro e w1 ⟨A1, c1, rfl, o1, b1⟩; rw [hcat] at o1 ⊢; clear hcat
      have HZ1 := Lib.hid b1.size
      have hz1' := b1.size
      go_wp2_with (
        at_builtin
        refine wpList_append_rdw _ rfl (.tmp 47) (.tmp 48) 62 rfl w1.heap.size 5 i0 (.int .u8 0) 1 1 Try.underlying62 hi hz0 hz1 hz2 rfl (by decide) (by decide) _ 0 0 [] rfl (own_e0 _ _) w.heap.size A n c (bv lb) rfl ((hr.below b1).alloc (by omega) _) (bv_oneCell lb) (by omega) (by simp) ?_
        intro A2 c2 w2 o2 b2
        simp only [Nat.zero_add, List.nil_append] at o2)
      have bA : Below w1.heap.size w1 w2 := ((Below.refl _ _).alloc (Nat.le_refl _) _).trans b2
      have B2 := Lib.hid (below_step b1 bA)
      have O1 := Lib.hid (o1.rd.below bA)
      have O2 := Lib.hid o2
      have S2 := Lib.hid bA.size
      have C2' := Lib.hid (C2.out _ ((hr'.below B2.out).more B2.out.size))
      clear o1 o2 b1 b2 bA C2
      refine (C2'.out).mono ?_; rintro e w3 ⟨A3, c3, rfl, o3, b3⟩
      have hz3 := b3.size
      have O1' := Lib.hid (O1.out.below (below_of_le b3 S2.out))
      have o2' := O2.out.below b3 (Nat.le_refl _)
      have B3 := Lib.hid (below_step B2.out b3)
      have hz2' := S2.out
      clear O1 O2 B2 S2 C2'
      go_wp2_with (
        at_builtin
        refine wpList_append_rdw _ rfl (.tmp 49) (.tmp 51) 62 rfl w1.heap.size 5 i0 (.int .u8 0) 1 1 Try.underlying62 hi hz0 hz1 hz2 rfl (by decide) (by decide) A2 n c2 (bv lb) rfl o2' w3.heap.size A3 FL.length c3 (bv FL) rfl o3.rd (bv_oneCell _) (by omega) (by omega) ?_
        intro A4 c4 w4 o4 b4
        rw [← bv_append] at o4)
      have hz4 := b4.size
      have B4 := Lib.hid (B3.out.trans (below_of_le b4 HZ1.out))
      have CS := Lib.hid (same_any (lb ++ FL) A1 A4 (n + FL.length) (n + FL.length) c1 c4 w4.heap.size w4 (by omega) ((O1'.out.below b4).more (by omega)) o4.rd (Nat.le_refl _))
      clear o2' o3 b3 o4 b4 O1' B3
      refine (CS.out).mono ?_; rintro e w5 ⟨rfl, b5⟩
      go_wp2_with fail
      refine (C3.out _).mono ?_; rintro e w6 ⟨rfl, rfl⟩
      go_wp2_with fail
      refine (C4'.out _).mono ?_; rintro e w6 ⟨rfl, rfl⟩
      have B5 := Lib.hid (below_step B4.out b5)
      clear b5 B4 C3 C4' ecat
      generalize FL.length = LF at *
      generalize hM : n + LF = M at *
      have t9 : (M : Int) - (n : Int) = (LF : Int) := by omega
      clear hM
      go_wp2_with fail
      refine (C9.out _).mono ?_; rintro e w6 ⟨rfl, b6⟩
      go_wp2
      go_ret
      exact ⟨rfl, below_step B5.out b6⟩
    · have d3 : decide ((0 : Int) ≤ k) = true := by simp; omega
      have d4 : decide (k ≤ (1048576 : Int)) = false := by simp; omega
      have hk1 : 1048576 < k := by omega
      clear hk
      go_enter Try.func9, Try.ntmps9
      go_wp2_with fail
      refine (C1.out).mono ?_; rintro e w1 ⟨A1, c1, rfl, o1, b1⟩; rw [hcat] at o1 ⊢; clear hcat
      have HZ1 := Lib.hid b1.size
      have hz1' := b1.size
      go_wp2_with (
        at_builtin
        refine wpList_append_rdw _ rfl (.tmp 47) (.tmp 48) 62 rfl w1.heap.size 5 i0 (.int .u8 0) 1 1 Try.underlying62 hi hz0 hz1 hz2 rfl (by decide) (by decide) _ 0 0 [] rfl (own_e0 _ _) w.heap.size A n c (bv lb) rfl ((hr.below b1).alloc (by omega) _) (bv_oneCell lb) (by omega) (by simp) ?_
        intro A2 c2 w2 o2 b2
        simp only [Nat.zero_add, List.nil_append] at o2)
      have bA : Below w1.heap.size w1 w2 := ((Below.refl _ _).alloc (Nat.le_refl _) _).trans b2
      have B2 := Lib.hid (below_step b1 bA)
      have O1 := Lib.hid (o1.rd.below bA)
      have O2 := Lib.hid o2
      have S2 := Lib.hid bA.size
      have C2' := Lib.hid (C2.out _ ((hr'.below B2.out).more B2.out.size))
      clear o1 o2 b1 b2 bA C2
      refine (C2'.out).mono ?_; rintro e w3 ⟨A3, c3, rfl, o3, b3⟩
      have hz3 := b3.size
      have O1' := Lib.hid (O1.out.below (below_of_le b3 S2.out))
      have o2' := O2.out.below b3 (Nat.le_refl _)
      have B3 := Lib.hid (below_step B2.out b3)
      have hz2' := S2.out
      clear O1 O2 B2 S2 C2'
      go_wp2_with (
        at_builtin
        refine wpList_append_rdw _ rfl (.tmp 49) (.tmp 51) 62 rfl w1.heap.size 5 i0 (.int .u8 0) 1 1 Try.underlying62 hi hz0 hz1 hz2 rfl (by decide) (by decide) A2 n c2 (bv lb) rfl o2' w3.heap.size A3 FL.length c3 (bv FL) rfl o3.rd (bv_oneCell _) (by omega) (by omega) ?_
        intro A4 c4 w4 o4 b4
        rw [← bv_append] at o4)
      have hz4 := b4.size
      have B4 := Lib.hid (B3.out.trans (below_of_le b4 HZ1.out))
      have CS := Lib.hid (same_any (lb ++ FL) A1 A4 (n + FL.length) (n + FL.length) c1 c4 w4.heap.size w4 (by omega) ((O1'.out.below b4).more (by omega)) o4.rd (Nat.le_refl _))
      clear o2' o3 b3 o4 b4 O1' B3
      refine (CS.out).mono ?_; rintro e w5 ⟨rfl, b5⟩
      go_wp2_with fail
      refine (C3.out _).mono ?_; rintro e w6 ⟨rfl, rfl⟩
      go_wp2_with fail
      refine (C4'.out _).mono ?_; rintro e w6 ⟨rfl, rfl⟩
      have B5 := Lib.hid (below_step B4.out b5)
      clear b5 B4 C3 C4' ecat
      generalize FL.length = LF at *
      generalize hM : n + LF = M at *
      have t9 : (M : Int) - (n : Int) = (LF : Int) := by omega
      clear hM
      go_wp2_with fail
      refine (C9.out _).mono ?_; rintro e w6 ⟨rfl, b6⟩
      go_wp2
      go_ret
      exact ⟨rfl, below_step B5.out b6⟩
theorem framePuts_law (w : World) {v v' : Value} {k : Int} (hv : IsBytes w v) (hv' : IsBytes w v') (wk : (Lit.int .i64 k).wf = true) :
    Calls Try.prog 9 #[v, v', .int .i64 k] w fun e w' => e = .returned (.bool true) ∧ Below w.heap.size w w' := by
  obtain ⟨A, n, c, lb, rfl, hnc, hcm, hr⟩ := hv
  obtain ⟨A', m, c', l, rfl, hmc, hcm', hr'⟩ := hv'
  obtain ⟨f, f'⟩ := bounds_i64 wk
  by_cases h : 1000 < n ∨ 1000 < m
  · exact framePuts_far w A A' n c m c' k h
  · exact framePuts_near w A A' n c m c' lb l k hr hr' (by omega) (by omega) (by omega) (by omega)
end Go.Proofs.Ytjlmbdhjpjbneaa
