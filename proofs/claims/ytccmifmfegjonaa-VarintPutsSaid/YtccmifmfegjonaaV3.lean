/- Layer 2 (varint): the walks of the laws VarintGets, VarintPuts. -/
import Derived.Test.YtccmifmfegjonaaV2
import Derived.Test.YtccmifmfegjonaaO
namespace Go.Proofs.Ytccmifmfegjonaa
open Go.RowKit
set_option linter.unusedVariables false

theorem varintGets_walk (w : World) {v : Value} (hb : IsBytes w v) :
    Calls Try.prog 14 #[v] w fun e w' => e = .returned (.bool true) ∧ Below w.heap.size w w' := by
  obtain ⟨A, n, c, l, rfl, hnc, hc, hr⟩ := hb
  have hc : c ≤ 9223372036854775807 := hc
  have hn : n ≤ 9223372036854775807 := Nat.le_trans hnc hc
  have C9 := Lib.hid awake02_any
  have C1 := Lib.hid (get_any A n c _ l w hn hr)
  have C2 := Lib.hid (getInt_any A n c _ l w hn hr)
  have C3 := Lib.hid (rget_any A n c _ l w hn hr)
  have hlt := vget_lt l
  generalize vget 0 0 l = r at *
  obtain ⟨x, k, er⟩ := r
  have hlt : x < 18446744073709551616 := hlt
  have hd : getV (x, k, er) = .tuple #[.int .u64 (x : Int), .int .i64 (k : Int), .int .i64 er] := rfl
  rw [hd] at C1 C3
  have c4 := fun w => rfold_any (unfoldI (x : Int)) (unfoldI_ge _ (by omega) (by omega)) (unfoldI_le _ (by omega) (by omega)) w
  rw [fold_unfold _ (by omega)] at c4
  have C4 := Lib.hid c4
  simp only at C2
  have t1 : ((x : Int) == (x : Int)) = true := by simp
  have t2 : ((k : Int) == (k : Int)) = true := by simp
  have t3 : (er == er) = true := by simp
  generalize unfoldI (x : Int) = m at *
  clear hd c4
  go_enter Try.func14, Try.ntmps14
  go_wp2_with fail
  refine (C1.out).mono ?_; rintro e w' ⟨rfl, rfl⟩
  go_wp2_with fail
  refine (C2.out).mono ?_; rintro e w' ⟨rfl, rfl⟩
  go_wp2_with fail
  refine (C3.out).mono ?_; rintro e w' ⟨rfl, rfl⟩
  go_wp2_with fail
  refine (C4.out _).mono ?_; rintro e w' ⟨rfl, rfl⟩
  go_wp2_with fail
  refine (C9.out _).mono ?_; rintro e w2 ⟨rfl, hb2⟩
  go_wp2
  go_ret
  exact ⟨rfl, hb2⟩
set_option maxRecDepth 100000 in
set_option maxHeartbeats 1000000 in
theorem varintPuts_in (w : World) (A : Option Addr) (n c : Nat) (l : List UInt8) (hr : Rd w w.heap.size 1 A n (bv l)) (hn : n ≤ 1000) (x : Nat) (hx : x < 18446744073709551616) (m : Int) (hm : -9223372036854775808 ≤ m) (hm' : m ≤ 9223372036854775807) :
    Calls Try.prog 16 #[.slice A n c, .int .u64 x, .int .i64 m] w fun e w' => e = .returned (.bool true) ∧ Below w.heap.size w w' := by
  obtain ⟨i0, hi, hz0, hz1, hz2⟩ := info_parts Try.info_by
  have hl : l.length = n := by have := hr.len; rw [bv_length] at this; exact this
  have C9 := Lib.hid awake02_any
  have hf := foldI_lt m hm hm'
  have C1 := Lib.hid (put_any A n c w.heap.size x l w (by omega) hx hr (Nat.le_refl _))
  have C2 := Lib.hid (fun (w' : World) (h1 : Rd w' w.heap.size 1 A n (bv l)) (h2 : w.heap.size ≤ w'.heap.size) => putInt_any A n c w.heap.size m l w' (by omega) hm hm' h1 h2)
  have C3 := Lib.hid (fun w => rput_any x w hx)
  have C4 := Lib.hid (fun w => rputInt_any m w hm hm')
  have C6 := Lib.hid (fun w => size_any x w hx)
  have hv := vsize_eq x
  have p1 := vput_le hx
  have p2 := vput_le (show (foldI m).toNat < 18446744073709551616 by omega)
  generalize vput (foldI m).toNat = P2 at *
  generalize vput x = P1 at *
  rw [← hv] at C6
  clear hv hf
  have S1 := Lib.hid (same_any (l ++ P1))
  have S2 := Lib.hid (same_any (l ++ P2))
  have t1 : ((P1.length : Int) == (P1.length : Int)) = true := by simp
  have L1 : (l ++ P1).length = n + P1.length := by rw [List.length_append, hl]
  have L2 : (l ++ P2).length = n + P2.length := by rw [List.length_append, hl]
  go_enter Try.func16, Try.ntmps16
  go_wp2_with fail
  refine (C1.out).mono ?_; rintro e w1 ⟨A1, c1, rfl, o1, b1⟩
  have r1 := hr.below b1
  have z1 := b1.size
  rw [L1] at o1 ⊢
  go_wp2_with fail
  refine (C2.out _ r1 z1).mono ?_; rintro e w2 ⟨A2, c2, rfl, o2, b2⟩
  have r2 := r1.below (below_of_le b2 z1)
  have k2 := below_step b1 b2
  have d1 := o1.rd.below b2
  have z2 := b2.size
  rw [L2] at o2 ⊢
  go_wp2_with fail
  refine (C3.out _).mono ?_; rintro e w3 ⟨A3, c3, rfl, o3, b3⟩
  have r3 := r2.below (below_of_le b3 k2.size)
  have k3 := below_step k2 b3
  have d1 := d1.below (below_of_le b3 z2)
  have d2 := o2.rd.below b3
  have d3 := o3.rd
  have z3 := b3.size
  have kz := k3.size
  clear r1 r2 o1 o2 o3 b1 b2 b3
  go_wp2_with (first
    | (at_builtin; refine wpList_append_rd _ rfl (.tmp 23) (.tmp 24) 27 rfl w3.heap.size 5 i0 (.int .u8 0) 1 1 Try.underlying27 hi hz0 hz1 hz2 rfl (by decide) (by decide) _ 0 0 [] rfl (own_e0 _ _) w.heap.size A n c (bv l) rfl (r3.alloc kz _) (bv_oneCell l) (by omega) (by simp) ?_; intro A4 c4 w4 o4 b4; simp only [Nat.zero_add, List.nil_append] at o4)
    | (at_builtin; refine wpList_append_rd _ rfl (.tmp 25) (.tmp 26) 27 rfl w3.heap.size 5 i0 (.int .u8 0) 1 1 Try.underlying27 hi hz0 hz1 hz2 rfl (by decide) (by decide) A4 n c4 (bv l) rfl o4 w3.heap.size A3 P1.length c3 (bv P1) rfl ((d3.alloc (Nat.le_refl _) _).below b4) (bv_oneCell P1) (by omega) (by have := b4.size; simp at this; omega) ?_; intro A5 c5 w5 o5 b5; rw [← bv_append] at o5))
  have b35 : Below w3.heap.size w3 w5 := (((Below.refl _ _).alloc (Nat.le_refl _) _).trans b4).trans b5
  have k5 := below_step k3 b35
  have r5 := r3.below (below_of_le b35 kz)
  have d1 := d1.below (below_of_le b35 (by omega))
  have d2 := d2.below (below_of_le b35 (by omega))
  have z5 := b35.size
  have s5 := o5.rd
  clear b4 b5 o4 r3
  refine (S1.out A1 A5 (n + P1.length) (n + P1.length) _ _ w5.heap.size _ (by omega) (d1.more (by omega)) s5 (Nat.le_refl _)).mono ?_; rintro e w6 ⟨rfl, b6⟩
  have k6 := below_step k5 b6
  have r6 := r5.below (below_of_le b6 k5.size)
  have d2 := d2.below (below_of_le b6 (by omega))
  have z6 := b6.size
  clear d1 s5 b6 r5 b35
  go_wp2_with (at_builtin; refine wpList_append_rdw _ rfl (.tmp 31) (.tmp 32) 27 rfl w6.heap.size 5 i0 (.int .u8 0) 1 1 Try.underlying27 hi hz0 hz1 hz2 rfl (by decide) (by decide) _ 0 0 [] rfl (own_e0 _ _) w.heap.size A n c (bv l) rfl (r6.alloc k6.size _) (bv_oneCell l) (by omega) (by simp) ?_; intro A7 c7 w7 o7 b7; simp only [Nat.zero_add, List.nil_append] at o7)
  have b67 : Below w6.heap.size w6 w7 := ((Below.refl _ _).alloc (Nat.le_refl _) _).trans b7
  refine (C4.out _).mono ?_; rintro e w8 ⟨A8, c8, rfl, o8, b8⟩
  have o7' := o7.below b8 (Nat.le_refl _)
  have b68 := below_step b67 b8
  have z8 := b68.size
  go_wp2_with (at_builtin; refine wpList_append_rdw _ rfl (.tmp 33) (.tmp 35) 27 rfl w6.heap.size 5 i0 (.int .u8 0) 1 1 Try.underlying27 hi hz0 hz1 hz2 rfl (by decide) (by decide) A7 n c7 (bv l) rfl o7' w8.heap.size A8 P2.length c8 (bv P2) rfl o8.rd (bv_oneCell P2) (by omega) z8 ?_; intro A9 c9 w9 o9 b9; rw [← bv_append] at o9)
  have b69 := b68.trans b9
  have d2 := d2.below (below_of_le b69 (by omega))
  have k9 := below_step k6 b69
  have z9 := b69.size
  have s9 := o9.rd
  clear b7 b8 b9 b67 b68 o7 o8 o7'
  refine (S2.out A2 A9 (n + P2.length) (n + P2.length) _ _ w9.heap.size _ (by omega) (d2.more (by omega)) s9 (Nat.le_refl _)).mono ?_; rintro e w10 ⟨rfl, b10⟩
  have k10 := below_step k9 b10
  go_wp2_with fail
  refine (C6.out _).mono ?_; rintro e w' ⟨rfl, rfl⟩
  go_wp2_with fail
  refine (C9.out _).mono ?_; rintro e w11 ⟨rfl, b11⟩
  go_wp2
  go_ret
  exact ⟨rfl, below_step k10 b11⟩
theorem varintPuts_walk (w : World) {v : Value} {x m : Int} (hb : IsBytes w v) (wx : (Lit.int .u64 x).wf = true) (wm : (Lit.int .i64 m).wf = true) :
    Calls Try.prog 16 #[v, .int .u64 x, .int .i64 m] w fun e w' => e = .returned (.bool true) ∧ Below w.heap.size w w' := by
  obtain ⟨A, n, c, l, rfl, hnc, hc, hr⟩ := hb
  have hc : c ≤ 9223372036854775807 := hc
  have hn : n ≤ 9223372036854775807 := Nat.le_trans hnc hc
  obtain ⟨g, g'⟩ := bounds_u64 wx
  obtain ⟨f, f'⟩ := bounds_i64 wm
  obtain ⟨X, rfl⟩ := Int.eq_ofNat_of_zero_le g
  by_cases h : 1000 < n
  · have C9 := Lib.hid awake02_any
    go_enter Try.func16, Try.ntmps16
    go_wp2_with fail
    refine (C9.out _).mono ?_; rintro e w2 ⟨rfl, hb2⟩
    go_wp2
    go_ret
    exact ⟨rfl, hb2⟩
  · exact varintPuts_in w A n c l hr (by omega) X (by omega) m f f'
end Go.Proofs.Ytccmifmfegjonaa
