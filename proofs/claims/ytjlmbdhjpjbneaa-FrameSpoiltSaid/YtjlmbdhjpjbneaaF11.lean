/- Layer 4 (frame): the walk of the law FrameSpoilt. -/
import Derived.Test.YtjlmbdhjpjbneaaF10
import Derived.Test.YtjlmbdhjpjbneaaF9
import Derived.Test.YtjlmbdhjpjbneaaC3
namespace Go.Proofs.Ytjlmbdhjpjbneaa
open Go.RowKit
set_option linter.unusedVariables false
set_option maxRecDepth 100000

theorem frameSpoilt_far (w : World) (A : Option Addr) (m c : Nat) (k x : Int) (h : 1000 < m) :
    Calls Try.prog 11 #[.slice A m c, .int .i64 k, .int .u8 x] w fun e w' => e = .returned (.bool true) ∧ Below w.heap.size w w' := by
  have C9 := Lib.hid awake04_any
  have t1 : (1000 : Int) < (m : Int) := by omega
  go_enter Try.func11, Try.ntmps11
  go_wp2_with fail
  refine (C9.out _).mono ?_; rintro e w2 ⟨rfl, hb2⟩
  go_wp2
  go_ret
  exact ⟨rfl, hb2⟩
set_option maxHeartbeats 2000000 in
theorem frameSpoilt_quiet (w : World) (A : Option Addr) (m c : Nat) (l : List UInt8) (k x : Int) (hr : Rd w w.heap.size 1 A m (bv l)) (hm : m ≤ 1000)
    (hk : k < 0 ∨ ((frm l).length : Int) ≤ k ∨ x = 0) :
    Calls Try.prog 11 #[.slice A m c, .int .i64 k, .int .u8 x] w fun e w' => e = .returned (.bool true) ∧ Below w.heap.size w w' := by
  have el : l.length = m := by have := hr.len; rwa [bv_length] at this
  have C9 := Lib.hid awake04_any
  have C1' := fput_any none A 0 m 0 c [] l w Rd.nil_ hr (by omega) (by omega)
  rw [List.nil_append] at C1'
  have C1 := Lib.hid C1'
  have hlen := frm_len' l
  have hvs := vsize_le l.length (by omega)
  have hF : (frm l).length ≤ 1014 := by omega
  have C2' := fun (w : World) A c hr h1 h2 => fone_any A (frm l).length c (frm l) w hr (by omega) h1 h2
  rw [f1_frm l (by omega)] at C2'
  have C2 := Lib.hid C2'
  have t0 : ¬ ((1000 : Int) < (m : Int)) := by omega
  clear hlen hvs C1' C2'
  generalize frm l = FL at *
  go_enter Try.func11, Try.ntmps11
  go_wp2_with fail
  refine (C1.out).mono ?_; rintro e w1 ⟨A1, c1, rfl, o1, b1⟩
  have C2c := Lib.hid (C2.out w1 A1 c1 o1.rd o1.2.1 o1.2.2)
  clear o1 C2
  go_wp2_with fail
  refine (C2c.out).mono ?_; rintro e w2 ⟨A2, c2, rfl, o2, b2⟩
  rw [el] at o2 ⊢
  have b12 := below_step b1 b2
  have CS := Lib.hid (same_any l A2 A m m c2 c w2.heap.size w2 (by omega) o2.rd ((hr.below b12).more b12.size) (Nat.le_refl _))
  have B := Lib.hid b12
  clear o2 b1 b2 b12 C1 hr el
  go_wp2_with fail
  refine (CS.out).mono ?_; rintro e w3 ⟨rfl, b3⟩
  by_cases hk0 : k < 0
  · clear hk
    go_wp2_with fail
    refine (C9.out _).mono ?_; rintro e w4 ⟨rfl, b4⟩
    go_wp2
    go_ret
    exact ⟨rfl, below_step B.out (below_step b3 b4)⟩
  · by_cases hk1 : (FL.length : Int) ≤ k
    · clear hk
      go_wp2_with fail
      refine (C9.out _).mono ?_; rintro e w4 ⟨rfl, b4⟩
      go_wp2
      go_ret
      exact ⟨rfl, below_step B.out (below_step b3 b4)⟩
    · have hx : x = 0 := by omega
      subst hx
      have hk2 : ¬ ((FL.length : Int) ≤ k) := hk1
      clear hk
      go_wp2_with fail
      refine (C9.out _).mono ?_; rintro e w4 ⟨rfl, b4⟩
      go_wp2
      go_ret
      exact ⟨rfl, below_step B.out (below_step b3 b4)⟩
set_option maxHeartbeats 2000000 in
theorem frameSpoilt_in (w : World) (A : Option Addr) (m c : Nat) (l : List UInt8) (k : Nat) (x : UInt8) (hr : Rd w w.heap.size 1 A m (bv l)) (hm : m ≤ 1000)
    (hk : k < (frm l).length) (hx : x ≠ 0) :
    Calls Try.prog 11 #[.slice A m c, .int .i64 k, .int .u8 (x.toNat : Int)] w fun e w' => e = .returned (.bool true) ∧ Below w.heap.size w w' := by
  obtain ⟨i0, hi, hz0, hz1, hz2⟩ := info_parts Try.info_by
  have el : l.length = m := by have := hr.len; rwa [bv_length] at this
  have C9 := Lib.hid awake04_any
  have C1' := fput_any none A 0 m 0 c [] l w Rd.nil_ hr (by omega) (by omega)
  rw [List.nil_append] at C1'
  have C1 := Lib.hid C1'
  have hlen := frm_len' l
  have hvs := vsize_le l.length (by omega)
  have hF : (frm l).length ≤ 1014 := by omega
  have C2' := fun (w : World) A c hr h1 h2 => fone_any A (frm l).length c (frm l) w hr (by omega) h1 h2
  rw [f1_frm l (by omega)] at C2'
  have C2 := Lib.hid C2'
  have t0 : ¬ ((1000 : Int) < (m : Int)) := by omega
  have tk0 : ¬ ((k : Int) < 0) := by omega
  have tk1 : (k : Int) < ((frm l).length : Int) := by omega
  have tx0 : ¬ (x.toNat = 0) := fun h => hx (UInt8.toNat_inj.1 (by simpa using h))
  have tx : ((x.toNat : Int) == 0) = false := by simp [tx0]
  obtain ⟨er, her, hf1⟩ := f1_spoilt l k hk x hx
  have hlc : ((frm l).set k ((frm l).getD k 0 ^^^ x)).length = (frm l).length := by simp
  have C3' := fun (w : World) A c hr h1 h2 => fone_any A (frm l).length c ((frm l).set k ((frm l).getD k 0 ^^^ x)) w hr (by omega) h1 h2
  rw [hf1] at C3'
  have C3 := Lib.hid C3'
  have te : (er != 0) = true := by simp [her]
  have ex : bits .xor .u8 (((frm l).getD k 0).toNat : Int) (x.toNat : Int) = (((frm l).getD k 0 ^^^ x).toNat : Int) := by
    rw [u8_xor_nat _ _ (by have := ((frm l).getD k 0).toNat_lt; omega) (by have := x.toNat_lt; omega), UInt8.toNat_xor]
  have HC := Lib.hid (fun (w2 : World) (b c2 g : Nat) (h : Own w2 b 5 1 (some ⟨g, 0, none⟩) (frm l).length c2 (bv (frm l))) => own_cell h hk)
  have hset := fun (z : UInt8) => bv_set' (frm l) k z
  clear hlen hvs C1' C2' C3' hf1 hx her
  generalize hFL : frm l = FL at *
  have HFL := Lib.hid hFL
  clear hFL
  generalize FL.getD k 0 = y at *
  generalize y ^^^ x = z at *
  generalize hlF : FL.length = LF at *
  have HLF := Lib.hid hlF
  clear hlF
  go_enter Try.func11, Try.ntmps11
  go_wp2_with fail
  refine (C1.out).mono ?_; rintro e w1 ⟨A1, c1, rfl, o1, b1⟩
  rw [HLF.out] at o1 ⊢
  have C2c := Lib.hid (C2.out w1 A1 c1 o1.rd o1.2.1 o1.2.2)
  have O1 := Lib.hid o1
  clear o1 C2
  go_wp2_with fail
  refine (C2c.out).mono ?_; rintro e w2 ⟨A2, c2, rfl, o2, b2⟩
  rw [el] at o2 ⊢
  have b12 := below_step b1 b2
  have CS := Lib.hid (same_any l A2 A m m c2 c w2.heap.size w2 (by omega) o2.rd ((hr.below b12).more b12.size) (Nat.le_refl _))
  have B := Lib.hid b12
  have R1 := Lib.hid (O1.out.rd.below b2)
  have Z1 := Lib.hid b2.size
  clear o2 b1 b2 b12 C1 hr el O1
  go_wp2_with fail
  refine (CS.out).mono ?_; rintro e w3 ⟨rfl, b3⟩
  have r3 := (R1.out.below (below_of_le b3 Z1.out)).more (Nat.le_trans Z1.out b3.size)
  have B3 := Lib.hid (below_step B.out b3)
  have hz3 := B3.out.size
  clear b3 B CS
  go_wp2_with (
    at_builtin
    refine wpList_append_rdw _ rfl (.tmp 53) (.tmp 54) 62 rfl w3.heap.size 5 i0 (.int .u8 0) 1 1 Try.underlying62 hi hz0 hz1 hz2 rfl (by decide) (by decide) _ 0 0 [] rfl (own_e0 _ _) w3.heap.size A1 LF c1 (bv FL) rfl (r3.alloc (Nat.le_refl _) _) (bv_oneCell FL) (by omega) (by simp) ?_
    intro A4 c4 w4 o4 b4
    simp only [Nat.zero_add, List.nil_append] at o4
    obtain ⟨g, rfl, hg, hgs⟩ := own_form1 o4 (by omega)
    have q0 := HC.out _ _ _ _ o4
    have q1 := o4.1.frozenAt k
    simp only [Nat.zero_add])
  have st := o4.1.stored k (.int .u8 (z.toNat : Int))
  rw [← hset] at st
  have o5 : Own (w4.setCell ⟨g, k, none⟩ (.int .u8 (z.toNat : Int))) w3.heap.size 5 1 (some ⟨g, 0, none⟩) LF c4 (bv (FL.set k z)) := ⟨st.1, o4.2⟩
  have bA : Below w3.heap.size w3 w4 := ((Below.refl _ _).alloc (Nat.le_refl _) _).trans b4
  have b5 := bA.grown st.2 bA.size (by intro j hj; injection hj with hj; omega)
  clear st o4 bA b4
  generalize w4.setCell ⟨g, k, none⟩ (.int .u8 (z.toNat : Int)) = w5 at *
  have B5 := Lib.hid (below_step B3.out b5)
  have C3c := Lib.hid (C3.out w5 (some ⟨g, 0, none⟩) c4 o5.rd o5.2.1 o5.2.2)
  clear o5 b5 B3 r3 C3
  refine (C3c.out).mono ?_; rintro e w6 ⟨A6, c6, rfl, o6, b6⟩
  have B6 := Lib.hid (below_step B5.out b6)
  clear o6 b6 B5 q0 q1
  go_wp2_with fail
  refine (C9.out _).mono ?_; rintro e w7 ⟨rfl, b7⟩
  go_wp2
  go_ret
  exact ⟨rfl, below_step B6.out b7⟩
theorem frameSpoilt_law (w : World) {v : Value} {k x : Int} (hv : IsBytes w v) (wk : (Lit.int .i64 k).wf = true) (wx : (Lit.int .u8 x).wf = true) :
    Calls Try.prog 11 #[v, .int .i64 k, .int .u8 x] w fun e w' => e = .returned (.bool true) ∧ Below w.heap.size w w' := by
  obtain ⟨A, m, c, l, rfl, hmc, hcm, hr⟩ := hv
  obtain ⟨f, f'⟩ := bounds_u8 wx
  by_cases h : 1000 < m
  · exact frameSpoilt_far w A m c k x h
  · by_cases hq : k < 0 ∨ ((frm l).length : Int) ≤ k ∨ x = 0
    · exact frameSpoilt_quiet w A m c l k x hr (by omega) hq
    · have ex : x = ((UInt8.ofNat x.toNat).toNat : Int) := by simp; omega
      have ek : k = ((k.toNat : Nat) : Int) := by omega
      rw [ex, ek]
      refine frameSpoilt_in w A m c l k.toNat (UInt8.ofNat x.toNat) hr (by omega) (by omega) ?_
      intro h0
      rw [h0] at ex
      simp at ex
      omega
end Go.Proofs.Ytjlmbdhjpjbneaa
