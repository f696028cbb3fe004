/- Layer 2 (varint): the contracts of Clone at bytes, Put, PutInt, Get, GetInt, Size, and of the reference's. -/
import Derived.Test.YtailbppddnegoaaVM
import Derived.Test.YtailbppddnegoaaB5
import Derived.Test.YtailbppddnegoaaW3
import Derived.WalkSpells
namespace Go.Proofs.Ytailbppddnegoaa
open Go.RowKit
set_option linter.unusedVariables false
set_option maxRecDepth 100000

theorem Try.info_by : (Try.prog.info? 5).map (fun i => (i.zero, i.size, i.bytes)) = some (some (.int .u8 0), 1, 1) := by kernel_rfl
theorem own_e0 (w : World) (e : TypeId) : Own (w.alloc (.cells #[] e)) w.heap.size e 1 (some ⟨w.heap.size, 0, none⟩) 0 0 [] :=
  ⟨World.ownsRow_lit _ #[] 0 (Nat.le_refl _) (by simp [maxLen]) rfl, Nat.le_refl _, by simp [maxLen]⟩
def NewB (w : World) (l : List UInt8) (e : Ending) (w' : World) : Prop :=
  ∃ A c, e = .returned (.slice A l.length c) ∧ Own w' w.heap.size 5 1 A l.length c (bv l) ∧ Below w.heap.size w w'
theorem clone_any (A : Option Addr) (n c B : Nat) (l : List UInt8) (w : World) (hn : n ≤ 140737488355328) (hr : Rd w B 1 A n (bv l)) (hB : B ≤ w.heap.size) :
    Calls Try.prog 101 #[.slice A n c] w (NewB w l) := by
  have hl : l.length = n := by have := hr.len; rw [bv_length] at this; exact this
  obtain ⟨i0, hi, hz0, hz1, hz2⟩ := info_parts Try.info_by
  have hq := fun (w : World) => Lib.run_eql_slice_nil (P := Try.prog) w 78 5 A n c 0 0 Try.underlying78
  cases A with
  | none =>
    have h0 : n = 0 := by
      rcases Nat.eq_zero_or_pos n with h | h
      · exact h
      · obtain ⟨b, o, he, _⟩ := hr.2 (by omega); cases he
    subst h0
    have : l = [] := List.eq_nil_of_length_eq_zero hl
    subst this
    have hq : ∀ w, (binOp .eql 78 (.slice none 0 c) (.slice none 0 0)).run Try.prog w = .ok (.bool true) w := fun w => by simpa using hq w
    go_enter Try.func101, Try.ntmps101
    go_wp2
    go_ret
    exact ⟨none, 0, rfl, Own.nil_, Below.refl _ _⟩
  | some a =>
    have hq : ∀ w, (binOp .eql 78 (.slice (some a) n c) (.slice none 0 0)).run Try.prog w = .ok (.bool false) w := fun w => by simpa using hq w
    go_enter Try.func101, Try.ntmps101
    go_wp2_with (at_builtin; refine wpList_append_rd _ rfl _ _ 78 rfl w.heap.size 5 i0 (.int .u8 0) 1 1 Try.underlying78 hi hz0 hz1 hz2 rfl (by decide) (by decide) _ 0 0 [] rfl (own_e0 _ _) B (some a) n c (bv l) rfl (hr.alloc hB _) (bv_oneCell l) (by omega) (by simp) ?_; intro A2 c2 w2 o2 b2)
    go_ret
    refine ⟨A2, c2, ?_, ?_, ((Below.refl _ _).alloc (Nat.le_refl _) _).trans b2⟩
    · rw [hl]; simp [Array.getD]
    · rw [hl]; simpa using o2
set_option maxRecDepth 100000 in
set_option maxHeartbeats 400000 in
theorem put_any (A : Option Addr) (n c B x : Nat) (l : List UInt8) (w : World) (hn : n ≤ 1000000) (hx : x < 18446744073709551616) (hr : Rd w B 1 A n (bv l)) (hB : B ≤ w.heap.size) :
    Calls Try.prog 122 #[.slice A n c, .int .u64 x] w (NewB w (l ++ vput x)) := by
  have hl : l.length = n := by have := hr.len; rw [bv_length] at this; exact this
  obtain ⟨i0, hi, hz0, hz1, hz2⟩ := info_parts Try.info_by
  have hp := vput_le hx
  subst hl
  have C1 := Lib.hid (clone_any A _ c B l w (by omega) hr hB)
  go_enter Try.func122, Try.ntmps122
  go_wp2_with fail
  refine (C1.out).mono ?_; rintro e w1 ⟨A1, c1, rfl, o1, b1⟩
  go_wp2
  go_loopw [1, 5] (fun y out wr => ∃ (z : Nat) (L : List UInt8) (A1 : Option Addr) (c1 : Nat), z < 18446744073709551616 ∧ y = .int .u64 z ∧ out = .slice A1 L.length c1 ∧ Own wr w.heap.size 5 1 A1 L.length c1 (bv L) ∧ L ++ vput z = l ++ vput x ∧ Below w.heap.size w wr) (fun y _ _ => (intOf y).toNat)
  case atStart => exact ⟨x, l, A1, c1, hx, rfl, rfl, o1, rfl, b1⟩
  case round =>
    obtain ⟨z, L, A1, c1, hz, rfl, rfl, ho, he, hb⟩ := hrel
    have hlen := congrArg List.length he
    rw [List.length_append, List.length_append] at hlen
    have hz1' := vput_pos z
    have hbs := hb.size
    by_cases h128 : 128 ≤ z
    · have hbig := vput_big h128
      have e1 : bits .or .u8 ((z : Int) % 256) 128 = ((z % 128 + 128 : Nat) : Int) := by rw [Lib.u8_or128_any _ (by omega) (by omega)]; omega
      rw [hbig, List.length_cons] at hlen hz1'
      have HB := Lib.hid hbig
      have HE := Lib.hid he
      have HL := Lib.hid hlen
      have hL10 : L.length ≤ l.length + 10 := by omega
      clear hbig he hlen hz1'
      go_wp2_with (at_builtin; refine wpList_append_rd _ rfl _ _ 78 rfl w.heap.size 5 i0 (.int .u8 0) 1 1 Try.underlying78 hi hz0 hz1 hz2 rfl (by decide) (by decide) A1 _ c1 (bv L) rfl (ho.alloc _) _ _ 1 1 _ rfl (Rd.fresh _ _ _ 1 rfl) (by intro u hu; simp at hu; subst hu; rfl) (by omega) (by simp; omega) ?_; intro A2 c2 w2 o2 b2)
      go_roundw
      case rel =>
        refine ⟨z / 128, L ++ [UInt8.ofNat (z % 128 + 128)], A2, c2, by omega, by go_num, by simp, ?_, ?_, (hb.alloc (by omega) _).trans b2⟩
        · have e2 : (#[Value.int .u8 ((z : Int) % 128 + 128)]).toList = bv [UInt8.ofNat (z % 128 + 128)] := by simp [bv]; omega
          rw [e2, ← bv_append] at o2
          rw [List.length_append]
          exact o2
        · rw [List.append_assoc, List.singleton_append, ← HB.out, HE.out]
      case measure => simp [intOf]; omega
    · have hsm := vput_small (show z < 128 by omega)
      rw [hsm] at he hlen
      have HE := Lib.hid he
      have hL10 : L.length ≤ l.length + 10 := by simp at hlen; omega
      clear he hlen hsm hz1'
      go_wp2_with (at_builtin; refine wpList_append_rd _ rfl _ _ 78 rfl w.heap.size 5 i0 (.int .u8 0) 1 1 Try.underlying78 hi hz0 hz1 hz2 rfl (by decide) (by decide) A1 _ c1 (bv L) rfl (ho.alloc _) _ _ 1 1 _ rfl (Rd.fresh _ _ _ 1 rfl) (by intro u hu; simp at hu; subst hu; rfl) (by omega) (by simp; omega) ?_; intro A2 c2 w2 o2 b2)
      go_ret
      have e2 : [Value.int .u8 (z : Int)] = bv [UInt8.ofNat z] := by simp [bv]; omega
      rw [e2, ← bv_append, HE.out] at o2
      have hlen := congrArg List.length HE.out
      rw [List.length_append, List.length_singleton] at hlen
      refine ⟨A2, c2, ?_, ?_, (hb.alloc (by omega) _).trans b2⟩
      · rw [← hlen]; rfl
      · rw [← hlen]; exact o2

set_option maxRecDepth 100000 in
set_option maxHeartbeats 400000 in
theorem rput_any (x : Nat) (w : World) (hx : x < 18446744073709551616) :
    Calls Try.prog 123 #[.int .u64 x] w (NewB w (vput x)) := by
  obtain ⟨i0, hi, hz0, hz1, hz2⟩ := info_parts Try.info_by
  have hp := vput_le hx
  go_enter Try.func123, Try.ntmps123
  go_wp2
  go_loopw [0, 3, 4] (fun y out i wr => ∃ (z : Nat) (L : List UInt8) (A1 : Option Addr) (c1 : Nat), z < 18446744073709551616 ∧ y = .int .u64 z ∧ i = .int .i64 L.length ∧ L.length ≤ 10 ∧ out = .slice A1 L.length c1 ∧ Own wr w.heap.size 5 1 A1 L.length c1 (bv L) ∧ L ++ vput z = vput x ∧ Below w.heap.size w wr) (fun y _ _ _ => (intOf y).toNat)
  case atStart => exact ⟨x, [], _, 0, hx, rfl, rfl, by decide, rfl, own_e0 _ _, rfl, (Below.refl _ _).alloc (Nat.le_refl _) _⟩
  case round =>
    obtain ⟨z, L, A1, c1, hz, rfl, rfl, hL, rfl, ho, he, hb⟩ := hrel
    have hlen := congrArg List.length he
    rw [List.length_append] at hlen
    have hz1' := vput_pos z
    have hbs := hb.size
    have hL9 : L.length < 10 := by omega
    by_cases h128 : z < 128
    · have hsm := vput_small h128
      rw [hsm] at he hlen
      have HE := Lib.hid he
      clear he hlen hsm hz1'
      go_wp2_with (at_builtin; refine wpList_append_rd _ rfl _ _ 78 rfl w.heap.size 5 i0 (.int .u8 0) 1 1 Try.underlying78 hi hz0 hz1 hz2 rfl (by decide) (by decide) A1 _ c1 (bv L) rfl (ho.alloc _) _ _ 1 1 _ rfl (Rd.fresh _ _ _ 1 rfl) (by intro u hu; simp at hu; subst hu; rfl) (by omega) (by simp; omega) ?_; intro A2 c2 w2 o2 b2)
      go_ret
      have e2 : [Value.int .u8 (z : Int)] = bv [UInt8.ofNat z] := by simp [bv]; omega
      rw [e2, ← bv_append, HE.out] at o2
      have hlen := congrArg List.length HE.out
      rw [List.length_append, List.length_singleton] at hlen
      refine ⟨A2, c2, ?_, ?_, (hb.alloc (by omega) _).trans b2⟩
      · rw [← hlen]; rfl
      · rw [← hlen]; exact o2
    · have hbig := vput_big (show 128 ≤ z by omega)
      rw [hbig, List.length_cons] at hlen hz1'
      have hvp := vput_pos (z / 128)
      have HB := Lib.hid hbig
      have HE := Lib.hid he
      have hL8 : L.length + 1 ≤ 10 := by omega
      clear hbig he hlen hz1' hvp
      go_wp2_with (at_builtin; refine wpList_append_rd _ rfl _ _ 78 rfl w.heap.size 5 i0 (.int .u8 0) 1 1 Try.underlying78 hi hz0 hz1 hz2 rfl (by decide) (by decide) A1 _ c1 (bv L) rfl (ho.alloc _) _ _ 1 1 _ rfl (Rd.fresh _ _ _ 1 rfl) (by intro u hu; simp at hu; subst hu; rfl) (by omega) (by simp; omega) ?_; intro A2 c2 w2 o2 b2)
      go_roundw
      case rel =>
        refine ⟨z / 128, L ++ [UInt8.ofNat (z % 128 + 128)], A2, c2, by omega, by go_num, by rw [List.length_append, List.length_singleton]; go_num, by simp; omega, by simp, ?_, ?_, (hb.alloc (by omega) _).trans b2⟩
        · have e2 : (#[Value.int .u8 ((z : Int) % 128 + 128)]).toList = bv [UInt8.ofNat (z % 128 + 128)] := by simp [bv]; omega
          rw [e2, ← bv_append] at o2
          rw [List.length_append]
          exact o2
        · rw [List.append_assoc, List.singleton_append, ← HB.out, HE.out]
      case measure => simp [intOf]; omega
end Go.Proofs.Ytailbppddnegoaa
