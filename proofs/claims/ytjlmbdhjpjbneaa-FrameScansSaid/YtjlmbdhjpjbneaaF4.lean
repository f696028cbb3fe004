/- Layer 4 (frame): Size, the document's Put. -/
import Derived.Test.YtjlmbdhjpjbneaaF3
namespace Go.Proofs.Ytjlmbdhjpjbneaa
open Go.RowKit
set_option linter.unusedVariables false
set_option maxRecDepth 100000

/-- How many bytes a frame has. -/
def szI (n : Int) : Int := if 0 ≤ n ∧ n ≤ 1048576 then (vsize n.toNat : Int) + n + 4 else 0
theorem vsize_le (x : Nat) (h : x < 18446744073709551616) : vsize x ≤ 10 := by rw [← vsize_eq]; exact vput_le h
theorem fsize_any (n : Int) (w : World) (h1 : -9223372036854775808 ≤ n) (h2 : n ≤ 9223372036854775807) : Calls Try.prog 56 #[.int .i64 n] w fun e w' => e = .returned (.int .i64 (szI n)) ∧ w = w' := by
  unfold szI
  by_cases h : 0 ≤ n ∧ n ≤ 1048576
  · rw [if_pos h]
    obtain ⟨N, rfl⟩ := Int.eq_ofNat_of_zero_le h.1
    have C1 := Lib.hid (size_any N w (by omega))
    have t1 : ¬ ((N : Int) < 0) := by omega
    have t2 : ¬ ((1048576 : Int) < (N : Int)) := by omega
    have y1 : IntKind.u64.wrap (N : Int) = (N : Int) := by rw [IntKind.wrap_u64]; omega
    have y2 : (N : Int) % 18446744073709551616 = (N : Int) := by omega
    have hv := vsize_le N (by omega)
    rw [Int.toNat_natCast]
    generalize vsize N = V at *
    clear h
    go_enter Try.func56, Try.ntmps56
    go_wp2_with fail
    refine (C1.out).mono ?_; rintro e w1 ⟨rfl, rfl⟩
    go_wp2
    go_ret
    exact ⟨rfl, rfl⟩
  · rw [if_neg h]
    by_cases h3 : n < 0
    · go_enter Try.func56, Try.ntmps56
      go_wp2
      go_ret
      exact ⟨rfl, rfl⟩
    · have h4 : 1048576 < n := by omega
      clear h
      go_enter Try.func56, Try.ntmps56
      go_wp2
      go_ret
      exact ⟨rfl, rfl⟩
set_option maxHeartbeats 1000000 in
theorem rfput_any (A : Option Addr) (m c : Nat) (l : List UInt8) (w : World) (hr : Rd w w.heap.size 1 A m (bv l)) (hm : m ≤ 1000000) :
    Calls Try.prog 55 #[.slice A m c] w (NewB w (frm l)) := by
  obtain ⟨i0, hi, hz0, hz1, hz2⟩ := info_parts Try.info_by
  have el : l.length = m := by have := hr.len; rwa [bv_length] at this
  have hcl := crcN_lt l
  have C1 := Lib.hid (rput_any m w (by omega))
  have C2 := Lib.hid (fun w (h : Rd w w.heap.size 1 A m (bv l)) => rsum_any A m c w.heap.size l w (by omega) h)
  have C3 := Lib.hid (fun w => rbytes_any (crcN l) 4 (by omega) (by omega) w)
  have y1 : IntKind.u64.wrap (m : Int) = (m : Int) := by rw [IntKind.wrap_u64]; omega
  have y2 : (m : Int) % 18446744073709551616 = (m : Int) := by omega
  have lv := vput_le (x := m) (by omega)
  have L4 := Lib.hid (leB_length (crcN l) 4)
  have hE : frm l = vput m ++ l ++ leB (crcN l) 4 := by unfold frm; rw [el]
  rw [hE]
  clear hE
  generalize crcN l = X at *
  generalize leB X 4 = S4 at *
  generalize hL : vput m ++ l ++ S4 = LL
  have HL := Lib.hid hL
  clear hL
  go_enter Try.func55, Try.ntmps55
  go_wp2_with fail
  refine (C1.out).mono ?_; rintro e w1 ⟨A1, c1, rfl, o1, b1⟩
  have hz1' := b1.size
  have r1 := (hr.below b1)
  clear C1
  go_wp2_with (
    at_builtin
    refine wpList_append_rd _ rfl (.tmp 8) (.tmp 9) 62 rfl w.heap.size 5 i0 (.int .u8 0) 1 1 Try.underlying62 hi hz0 hz1 hz2 rfl (by decide) (by decide) A1 (vput m).length c1 (bv (vput m)) rfl o1 w.heap.size A m c (bv l) rfl r1 (bv_oneCell _) (by omega) (by omega) ?_
    intro A2 c2 w2 o2 b2
    rw [← bv_append] at o2
    have hz2' := b2.size
    have B2 := Lib.hid (b1.trans b2)
    clear o1 r1 b1 b2)
  refine (C2.out _ ((hr.below B2.out).more (by omega))).mono ?_; rintro e w3 ⟨rfl, rfl⟩
  go_wp2_with fail
  refine (C3.out _).mono ?_; rintro e w4 ⟨A4, c4, rfl, o4, b4⟩
  have hz4 := b4.size
  have eVL : (vput m).length + m = (vput m ++ l).length := by rw [List.length_append, el]
  rw [eVL] at o2 ⊢
  have hVL : (vput m ++ l).length ≤ 1000010 := by rw [← eVL]; omega
  have o24 := Lib.hid (o2.below b4 (Nat.le_refl _))
  have B4 := Lib.hid (B2.out.trans (below_of_le b4 (by omega)))
  have O4 := Lib.hid o4.rd
  clear o2 b4 o4 B2 eVL C2 C3
  generalize vput m ++ l = VL at *
  have hS4 := L4.out
  have L4' : S4.length = 4 := hS4
  clear hS4
  go_wp2_with (
    at_builtin
    refine wpList_append_rd _ rfl (.tmp 11) (.tmp 15) 62 rfl w.heap.size 5 i0 (.int .u8 0) 1 1 Try.underlying62 hi hz0 hz1 hz2 rfl (by decide) (by decide) A2 VL.length c2 (bv VL) rfl o24.out w4.heap.size A4 S4.length c4 (bv S4) (by first | rfl | (rw [L4']; rfl)) O4.out (bv_oneCell _) (by omega) (by omega) ?_
    intro A5 c5 w5 o5 b5
    rw [← bv_append, HL.out] at o5)
  go_ret
  have eL : VL.length + S4.length = LL.length := by rw [← HL.out, List.length_append]
  rw [eL] at o5
  refine ⟨A5, c5, ?_, o5, B4.out.trans b5⟩
  rw [← eL, L4']
  rfl
end Go.Proofs.Ytjlmbdhjpjbneaa
