/- Layer 16 (dot): the document's Put. -/
import Derived.Test.YtailbppddnegoaaD4
namespace Go.Proofs.Ytailbppddnegoaa
open Go.RowKit
set_option linter.unusedVariables false
set_option maxRecDepth 100000

theorem rnum5_any (x : Nat) (w : World) (hx : x < 18446744073709551616) : Calls Try.prog 102 #[.int .u64 x] w (NewB w (vput x)) := by
  have C1 := Lib.hid (rput_any x w hx)
  go_enter Try.func102, Try.ntmps102
  go_wp2_with fail
  refine (C1.out).mono ?_; rintro e w1 ⟨A1, c1, rfl, o1, b1⟩
  go_wp2
  go_ret
  exact ⟨A1, c1, rfl, o1, b1⟩
theorem rdput_any (d i s : Int) (hq : dotB d i s = true) (w : World) : Calls Try.prog 103 #[dotV d i s] w (NewB w (dotP d i s)) := by
  have hB : ∃ D I S : Nat, d = D ∧ i = I ∧ s = S ∧ D < 64 ∧ I ≤ 1048576 ∧ S ≤ 4294967296 := by
    have hb := hq
    simp [dotB, actB] at hb
    exact ⟨d.toNat, i.toNat, s.toNat, by omega, by omega, by omega, by omega, by omega, by omega⟩
  have hP : dotP d i s = vput d.toNat ++ (vput i.toNat ++ vput s.toNat) := by unfold dotP; rw [if_pos hq]
  obtain ⟨D, I, S, rfl, rfl, rfl, h1, h2, h3⟩ := hB
  rw [hP, ← List.append_assoc]
  simp only [Int.toNat_natCast]
  clear hP hq
  obtain ⟨i0, hi, hz0, hz1, hz2⟩ := info_parts Try.info_by
  have x1 : D < 18446744073709551616 := by omega
  have x2 : I < 18446744073709551616 := by omega
  have x3 : S < 18446744073709551616 := by omega
  have C1 := Lib.hid (fun w => rnum5_any D w x1)
  have C2 := Lib.hid (fun w => rnum5_any I w x2)
  have C3 := Lib.hid (fun w => rnum5_any S w x3)
  have y1 : IntKind.u64.wrap (D : Int) = (D : Int) := by rw [IntKind.wrap_u64]; omega
  have y2 : IntKind.u64.wrap (I : Int) = (I : Int) := by rw [IntKind.wrap_u64]; omega
  have y3 : IntKind.u64.wrap (S : Int) = (S : Int) := by rw [IntKind.wrap_u64]; omega
  have z1 : (D : Int) % 18446744073709551616 = D := by omega
  have z2 : (I : Int) % 18446744073709551616 = I := by omega
  have z3 : (S : Int) % 18446744073709551616 = S := by omega
  have l1 := vput_le x1
  have l2 := vput_le x2
  have l3 := vput_le x3
  have e1 : ∀ W : World, W.alloc (.cells #[.int .i64 D, .int .i64 I, .int .i64 S] 27) = W.alloc (.cells #[.int .i64 D, .int .i64 I, .int .i64 S] 27) := fun _ => rfl
  have hX := Lib.hid (Whole.new w 27 #[.int .i64 D, .int .i64 I, .int .i64 S])
  have hb0 := Lib.hid ((Below.refl w.heap.size w).alloc (Nat.le_refl _) (.cells #[.int .i64 D, .int .i64 I, .int .i64 S] 27))
  unfold dotV
  clear h1 h2 h3 x1 x2 x3 e1
  go_enter Try.func103, Try.ntmps103
  go_wp2_with fail
  generalize (w.alloc (.cells #[.int .i64 D, .int .i64 I, .int .i64 S] 27)) = W1 at *
  have hlt := hX.out.lt
  refine (C1.out _).mono ?_; rintro e w2 ⟨A1, c1, rfl, o1, b1⟩
  have s2 := hX.out.below b1 hlt
  have B2 := Lib.hid (hb0.out.trans (below_of_le b1 hb0.out.size))
  have c1' : w2.cell? ⟨w.heap.size, 1, none⟩ = some (.int .i64 I) := by rw [s2.cell]; rfl
  have hz := b1.size
  have o1' := Lib.hid (o1.base_le (b' := w.heap.size + 1) (by omega))
  have s2' := Lib.hid s2
  clear hX hb0 b1 s2 o1 C1
  go_wp2_with fail
  refine (C2.out _).mono ?_; rintro e w3 ⟨A2, c2, rfl, o2, b2⟩
  have s3 := Lib.hid (s2'.out.below b2 (by omega))
  have o3 := o1'.out.below b2 (Nat.le_refl _)
  have B3 := Lib.hid (B2.out.trans (below_of_le b2 (by omega)))
  have hz3 := b2.size
  clear c1' s2' B2 b2 o1'
  go_wp2_with (
    at_builtin
    refine wpList_append_rd _ rfl _ _ 78 rfl (w.heap.size + 1) 5 i0 (.int .u8 0) 1 1 Try.underlying78 hi hz0 hz1 hz2 rfl (by decide) (by decide) A1 (vput D).length c1 (bv (vput D)) rfl o3 w3.heap.size A2 (vput I).length c2 (bv (vput I)) rfl o2.rd (bv_oneCell _) (by omega) (by omega) ?_
    intro A3 c3 w4 o4 b4
    rw [← bv_append] at o4
    have s4 := s3.out.below b4 (by omega)
    have B4 := Lib.hid (B3.out.trans (below_of_le b4 (by omega)))
    have c2' : w4.cell? ⟨w.heap.size, 2, none⟩ = some (.int .i64 S) := by rw [s4.cell]; rfl
    have hz4 := b4.size
    clear s3 s4 B3 b4 o2 o3)
  refine (C3.out _).mono ?_; rintro e w5 ⟨A5, c5, rfl, o5, b5⟩
  have o6 := o4.below b5 (Nat.le_refl _)
  have B5 := Lib.hid (B4.out.trans (below_of_le b5 (by omega)))
  have hz5 := b5.size
  have hL : (vput D).length + (vput I).length = (vput D ++ vput I).length := by simp
  rw [hL] at o6 ⊢
  have hL2 : (vput D ++ vput I).length ≤ 20 := by simp; omega
  clear c2' o4 b5 B4 hL
  generalize vput D ++ vput I = L at *
  go_wp2_with (
    at_builtin
    refine wpList_append_rd _ rfl _ _ 78 rfl (w.heap.size + 1) 5 i0 (.int .u8 0) 1 1 Try.underlying78 hi hz0 hz1 hz2 rfl (by decide) (by decide) A3 L.length c3 (bv L) rfl o6 w5.heap.size A5 (vput S).length c5 (bv (vput S)) rfl o5.rd (bv_oneCell _) (by omega) (by omega) ?_
    intro A7 c7 w7 o7 b7
    rw [← bv_append] at o7
    have B7 := B5.out.trans (below_of_le b7 (by omega)))
  go_ret
  have hL3 : L.length + (vput S).length = (L ++ vput S).length := by simp
  rw [hL3] at o7 ⊢
  exact ⟨A7, c7, rfl, o7.base_le (b' := w.heap.size) (by omega), B7⟩
end Go.Proofs.Ytailbppddnegoaa
