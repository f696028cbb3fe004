/- Layer 4 (frame): the walk of the law FrameGets. -/
import Derived.Test.YtjlmbdhjpjbneaaF7
import Derived.Test.YtjlmbdhjpjbneaaO
namespace Go.Proofs.Ytjlmbdhjpjbneaa
open Go.RowKit
set_option linter.unusedVariables false
set_option maxRecDepth 100000

theorem fG_err (l : List UInt8) (h : (fG l).2.2 ≠ 0) : (fG l).1 = [] := by
  unfold fG at h ⊢
  repeat' split
  all_goals simp_all
set_option maxHeartbeats 2000000 in
theorem frameGets_law (w : World) {v : Value} (hv : IsBytes w v) :
    Calls Try.prog 10 #[v] w fun e w' => e = .returned (.bool true) ∧ Below w.heap.size w w' := by
  obtain ⟨A, n, c, l, rfl, hnc, hcm, hr⟩ := hv
  have hcm' : c ≤ 9223372036854775807 := hcm
  have C9 := Lib.hid awake04_any
  by_cases hn : 3000 < n
  · clear hr
    go_enter Try.func10, Try.ntmps10
    go_wp2_with fail
    refine (C9.out _).mono ?_; rintro e w2 ⟨rfl, b2⟩
    go_wp2
    go_ret
    exact ⟨rfl, b2⟩
  · have el : l.length = n := by have := hr.len; rwa [bv_length] at this
    have C1 := Lib.hid (fget_any A n c l w hr (by omega) hnc hcm)
    have C2 := Lib.hid (fun w1 (h : Rd w1 w1.heap.size 1 A n (bv l)) => fone_any A n c l w1 h (by omega) hnc hcm)
    have C3 := Lib.hid (fun w1 (h : Rd w1 w1.heap.size 1 A n (bv l)) => rfget_any A n c l w1 h (by omega) hnc hcm)
    have hbody : (fG l).1.length ≤ 9223372036854775807 := by
      unfold fG
      repeat' split
      all_goals simp
      omega
    have herr := fG_err l
    unfold f1 at C2
    rw [el] at C2
    generalize fG l = R at *
    obtain ⟨body, m, er⟩ := R
    simp only at herr hbody C2
    have tm : ((m : Int) != (m : Int)) = false := by simp
    have te : (er != er) = false := by simp
    have HR := Lib.hid hr
    clear hr el
    by_cases h1 : er = 0
    · subst h1
      by_cases h2 : m < n
      · rw [if_neg (by simp), if_pos h2] at C2
        have t2 : (m : Int) < (n : Int) := by omega
        clear herr
        go_enter Try.func10, Try.ntmps10
        go_wp2_with fail
        refine (C1.out).mono ?_; rintro e w1 ⟨A1, c1, rfl, o1, b1⟩
        go_wp2_with fail
        refine (C2.out w1 ((HR.out.below b1).more b1.size)).mono ?_; rintro e w2 ⟨A2, c2, rfl, o2, b2⟩
        have b12 := below_step b1 b2
        go_wp2_with fail
        refine (C3.out w2 ((HR.out.below b12).more b12.size)).mono ?_; rintro e w3 ⟨A3, c3, rfl, o3, b3⟩
        have b13 := below_step b12 b3
        have CS := Lib.hid (same_any body A1 A3 body.length body.length c1 c3 w3.heap.size w3 hbody ((o1.rd.below (below_step b2 b3)).more (below_step b2 b3).size) o3.rd (Nat.le_refl _))
        have B := Lib.hid b13
        clear o1 o2 o3 b1 b2 b3 b12 b13 C1 C2 C3
        go_wp2_with fail
        refine (CS.out).mono ?_; rintro e w4 ⟨rfl, b4⟩
        go_wp2_with fail
        refine (C9.out _).mono ?_; rintro e w5 ⟨rfl, b5⟩
        go_wp2
        go_ret
        exact ⟨rfl, below_step B.out (below_step b4 b5)⟩
      · rw [if_neg (by simp), if_neg h2] at C2
        have t2 : ¬ ((m : Int) < (n : Int)) := by omega
        clear herr
        go_enter Try.func10, Try.ntmps10
        go_wp2_with fail
        refine (C1.out).mono ?_; rintro e w1 ⟨A1, c1, rfl, o1, b1⟩
        go_wp2_with fail
        refine (C2.out w1 ((HR.out.below b1).more b1.size)).mono ?_; rintro e w2 ⟨A2, c2, rfl, o2, b2⟩
        have b12 := below_step b1 b2
        go_wp2_with fail
        refine (C3.out w2 ((HR.out.below b12).more b12.size)).mono ?_; rintro e w3 ⟨A3, c3, rfl, o3, b3⟩
        have b13 := below_step b12 b3
        have r2 := Lib.hid ((o2.rd.below b3).more b3.size)
        have r3 := Lib.hid o3.rd
        have CS := Lib.hid (same_any body A1 A3 body.length body.length c1 c3 w3.heap.size w3 hbody ((o1.rd.below (below_step b2 b3)).more (below_step b2 b3).size) o3.rd (Nat.le_refl _))
        have B := Lib.hid b13
        clear o1 o2 o3 b1 b2 b3 b12 b13 C1 C2 C3
        go_wp2_with fail
        refine (CS.out).mono ?_; rintro e w4 ⟨rfl, b4⟩
        have CS2 := Lib.hid (same_any body A2 A3 body.length body.length c2 c3 w4.heap.size w4 hbody ((r2.out.below b4).more b4.size) ((r3.out.below b4).more b4.size) (Nat.le_refl _))
        go_wp2_with fail
        refine (CS2.out).mono ?_; rintro e w5 ⟨rfl, b5⟩
        go_wp2_with fail
        refine (C9.out _).mono ?_; rintro e w6 ⟨rfl, b6⟩
        go_wp2
        go_ret
        exact ⟨rfl, below_step B.out (below_step b4 (below_step b5 b6))⟩
    · have hb0 := herr h1
      subst hb0
      rw [if_pos h1] at C2
      have t1 : (er == 0) = false := by simp [h1]
      have tee : (er == er) = true := by simp
      clear herr
      go_enter Try.func10, Try.ntmps10
      go_wp2_with fail
      refine (C1.out).mono ?_; rintro e w1 ⟨A1, c1, rfl, o1, b1⟩
      go_wp2_with fail
      refine (C2.out w1 ((HR.out.below b1).more b1.size)).mono ?_; rintro e w2 ⟨A2, c2, rfl, o2, b2⟩
      have b12 := below_step b1 b2
      go_wp2_with fail
      refine (C3.out w2 ((HR.out.below b12).more b12.size)).mono ?_; rintro e w3 ⟨A3, c3, rfl, o3, b3⟩
      have b13 := below_step b12 b3
      have CS := Lib.hid (fun (w : World) => same_any [] A1 A3 0 0 c1 c3 0 w (by omega) Rd.nil_ Rd.nil_ (Nat.zero_le _))
      have CS2 := Lib.hid (fun (w : World) => same_any [] A2 A3 0 0 c2 c3 0 w (by omega) Rd.nil_ Rd.nil_ (Nat.zero_le _))
      have B := Lib.hid b13
      clear o1 o2 o3 b1 b2 b3 b12 b13 C1 C2 C3
      go_wp2_with fail
      refine (CS.out _).mono ?_; rintro e w4 ⟨rfl, b4⟩
      go_wp2_with fail
      refine (CS2.out _).mono ?_; rintro e w5 ⟨rfl, b5⟩
      go_wp2_with fail
      refine (C9.out _).mono ?_; rintro e w6 ⟨rfl, b6⟩
      go_wp2
      go_ret
      exact ⟨rfl, below_step B.out (below_step b4 (below_step b5 b6))⟩
end Go.Proofs.Ytjlmbdhjpjbneaa
