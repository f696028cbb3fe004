/- Layer 17 (vector): the walk of the law VectorOf. -/
import Derived.Test.YtailbppddnegoaaZ19
import Derived.Test.YtailbppddnegoaaO8
namespace Go.Proofs.Ytailbppddnegoaa
open Go.RowKit
set_option linter.unusedVariables false
set_option maxRecDepth 100000
attribute [local go_sem ↓] Go.wp_at_zero Go.wp_at_succ

theorem wr_newV (w : World) (base : Nat) (h : base ≤ w.heap.size) : Wr (w.alloc (.cells #[.slice none 0 0] 80)) base w.heap.size none 0 [] :=
  ⟨h, Whole.new _ _ _, Own.nil_⟩
set_option maxHeartbeats 4000000 in
theorem vectorOf_no (w : World) (Al : Option Addr) (cl : Nat) (L : List Dt) (hr : MsAt w Al L) (hn : L.length ≤ 9223372036854775807) (hg : (100 < L.length ∧ L.length ≤ 4096 ∨ 5000 < L.length) = False) (hc : chkE L ≠ 0) :
    Calls Try.prog 15 #[.slice Al L.length cl] w fun e w' => e = .returned (.bool true) ∧ Below w.heap.size w w' := by
  have C9 := Lib.hid awake17_any
  have CO := Lib.hid ((vcof_any w Al cl L hr hn).mono (fun e w' h => show e = .returned (.tuple #[.pointer none, .int .i64 (chkE L)]) ∧ Below w.heap.size w w' from by
    unfold OfEnd at h
    rw [if_neg hc] at h
    exact h))
  have CP := Lib.hid (fun W b (h : MsAt W Al L) => vcput_no W b Al cl L h hn hc)
  have CB := Lib.hid (fun (W : World) (bs q : Nat) (h : Wr W bs q none 0 []) => wbytes_any W bs q none 0 [] h (by decide))
  have CG := Lib.hid (fun W (h : MsAt W Al L) => rcheck17_any W Al cl L h hn)
  have CK := Lib.hid (fun W (h : MsAt W Al L) => vccheck_any W Al cl L h hn)
  have HR := Lib.hid hr
  have hg' : ¬ (100 < L.length ∧ L.length ≤ 4096 ∨ 5000 < L.length) := by rw [hg]; exact id
  have hr0 : (chkE L != 0) = true := by simpa using hc
  generalize chkE L = r at *
  generalize L.length = n at *
  have hl0 : ([] : List UInt8).length = 0 := rfl
  have g1 : (decide (100 < (n : Int)) && decide ((n : Int) ≤ 4096) || decide (5000 < (n : Int))) = false := by simp; omega
  clear hr hg hc
  generalize hN : w.heap.size = N at *
  by_cases h1 : 100 < n
  · have h2 : 4096 < n := by omega
    have h3 : n ≤ 5000 := by omega
    go_enter Try.func15, Try.ntmps15
    go_wp2_with fail
    refine (CO.out).mono ?_; rintro e w1 ⟨rfl, b1⟩
    have H1 := Lib.hid (And.intro (HR.out.up (by rw [hN]; exact b1)) b1)
    have hz1 : N ≤ w1.heap.size := by have := b1.size; omega
    have hq := wr_newV w1 w1.heap.size (Nat.le_refl _)
    have hbq : Below w1.heap.size w1 (w1.alloc (.cells #[.slice none 0 0] 80)) := (Below.refl _ _).alloc (Nat.le_refl _) _
    have H2 := Lib.hid (And.intro hq (And.intro (H1.out.1.up hbq) (H1.out.2.trans (below_of_le hbq hz1))))
    have hz2 : N ≤ (w1.alloc (.cells #[.slice none 0 0] 80)).heap.size := Nat.le_trans hz1 hbq.size
    clear hq hbq H1 b1
    go_wp2_with fail
    generalize (w1.alloc (.cells #[.slice none 0 0] 80)) = W2 at *
    refine (CP.out _ _ H2.out.2.1).mono ?_; rintro e w3 ⟨rfl, b3⟩
    have H3 := Lib.hid (And.intro (H2.out.1.below b3) (And.intro (H2.out.2.1.up b3) (H2.out.2.2.trans (below_of_le b3 hz2))))
    have hz3 : N ≤ w3.heap.size := Nat.le_trans hz2 b3.size
    clear b3 H2
    go_wp2_with fail
    refine (CB.out _ _ _ H3.out.1).mono ?_; rintro e w4 ⟨A4, c4, rfl, o4, b4⟩
    have H4 := Lib.hid (And.intro (H3.out.2.1.up b4) (H3.out.2.2.trans (below_of_le b4 hz3)))
    have hz4 : N ≤ w4.heap.size := Nat.le_trans hz3 b4.size
    clear b4 o4 H3
    simp only [hl0]
    go_wp2_with fail
    refine (CG.out _ H4.out.1).mono ?_; rintro e w5 ⟨rfl, b5⟩
    have H5 := Lib.hid (And.intro (H4.out.1.up b5) (H4.out.2.trans (below_of_le b5 hz4)))
    have hz5 : N ≤ w5.heap.size := Nat.le_trans hz4 b5.size
    clear b5 H4
    go_wp2_with fail
    refine (CK.out _ H5.out.1).mono ?_; rintro e w6 ⟨rfl, b6⟩
    have H6 := Lib.hid (H5.out.2.trans (below_of_le b6 hz5))
    have hz6 : N ≤ w6.heap.size := Nat.le_trans hz5 b6.size
    clear b6 H5
    go_wp2_with fail
    refine (C9.out _).mono ?_; rintro e w7 ⟨rfl, b7⟩
    have H7 := Lib.hid (H6.out.trans (below_of_le b7 hz6))
    clear b7 H6
    go_wp2
    go_ret
    exact ⟨rfl, H7.out⟩
  · have h2 : n ≤ 100 := by omega
    go_enter Try.func15, Try.ntmps15
    go_wp2_with fail
    refine (CO.out).mono ?_; rintro e w1 ⟨rfl, b1⟩
    have H1 := Lib.hid (And.intro (HR.out.up (by rw [hN]; exact b1)) b1)
    have hz1 : N ≤ w1.heap.size := by have := b1.size; omega
    have hq := wr_newV w1 w1.heap.size (Nat.le_refl _)
    have hbq : Below w1.heap.size w1 (w1.alloc (.cells #[.slice none 0 0] 80)) := (Below.refl _ _).alloc (Nat.le_refl _) _
    have H2 := Lib.hid (And.intro hq (And.intro (H1.out.1.up hbq) (H1.out.2.trans (below_of_le hbq hz1))))
    have hz2 : N ≤ (w1.alloc (.cells #[.slice none 0 0] 80)).heap.size := Nat.le_trans hz1 hbq.size
    clear hq hbq H1 b1
    go_wp2_with fail
    generalize (w1.alloc (.cells #[.slice none 0 0] 80)) = W2 at *
    refine (CP.out _ _ H2.out.2.1).mono ?_; rintro e w3 ⟨rfl, b3⟩
    have H3 := Lib.hid (And.intro (H2.out.1.below b3) (And.intro (H2.out.2.1.up b3) (H2.out.2.2.trans (below_of_le b3 hz2))))
    have hz3 : N ≤ w3.heap.size := Nat.le_trans hz2 b3.size
    clear b3 H2
    go_wp2_with fail
    refine (CB.out _ _ _ H3.out.1).mono ?_; rintro e w4 ⟨A4, c4, rfl, o4, b4⟩
    have H4 := Lib.hid (And.intro (H3.out.2.1.up b4) (H3.out.2.2.trans (below_of_le b4 hz3)))
    have hz4 : N ≤ w4.heap.size := Nat.le_trans hz3 b4.size
    clear b4 o4 H3
    simp only [hl0]
    go_wp2_with fail
    refine (CG.out _ H4.out.1).mono ?_; rintro e w5 ⟨rfl, b5⟩
    have H5 := Lib.hid (And.intro (H4.out.1.up b5) (H4.out.2.trans (below_of_le b5 hz4)))
    have hz5 : N ≤ w5.heap.size := Nat.le_trans hz4 b5.size
    clear b5 H4
    go_wp2_with fail
    refine (CK.out _ H5.out.1).mono ?_; rintro e w6 ⟨rfl, b6⟩
    have H6 := Lib.hid (H5.out.2.trans (below_of_le b6 hz5))
    have hz6 : N ≤ w6.heap.size := Nat.le_trans hz5 b6.size
    clear b6 H5
    go_wp2_with fail
    refine (C9.out _).mono ?_; rintro e w7 ⟨rfl, b7⟩
    have H7 := Lib.hid (H6.out.trans (below_of_le b7 hz6))
    clear b7 H6
    go_wp2
    go_ret
    exact ⟨rfl, H7.out⟩
end Go.Proofs.Ytailbppddnegoaa
