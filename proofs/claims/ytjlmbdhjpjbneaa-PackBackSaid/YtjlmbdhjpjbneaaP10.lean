/- Layer 5 (pack): the reader's Int and Flags, of what was packed; the document's SameFlags. -/
import Derived.Test.YtjlmbdhjpjbneaaP7
namespace Go.Proofs.Ytjlmbdhjpjbneaa
open Go.RowKit
set_option linter.unusedVariables false
set_option maxRecDepth 100000

theorem rint_put (x : Int) (R : List UInt8) (w : World) (b : Nat) (A : Option Addr) (n c : Nat) (m : Int) (h : Re w b A n c (vput (foldI x).toNat ++ R) 0) (h0 : 0 ≤ m) (h1 : m ≤ 9223372036854775807) (hx1 : -m ≤ x) (hx2 : x ≤ m) :
    Calls Try.prog 64 #[.pointer (some ⟨b, 0, none⟩), .int .i64 m] w (REnd w b (R, 0) (.int .i64 x)) := by
  have C0 := Lib.hid (rmay_any w b A n c _ 0 h)
  have hlt := foldI_lt x (by omega) (by omega)
  have hnn := foldI_nn x
  have hl := h.len
  have cg := getInt_any A n c w.heap.size _ w (by have := h.2.2; have hm : maxLen = 9223372036854775807 := rfl; omega) (h.2.1.more (Nat.le_of_lt h.1.lt))
  rw [vget_put _ _ (by omega)] at cg
  simp only at cg
  rw [Int.toNat_of_nonneg hnn, unfold_fold] at cg
  have CG := Lib.hid cg
  have hc0 := h.cell0
  have hf0 := h.1.free 0
  have hkn : (vput (foldI x).toNat).length ≤ n := by rw [← hl, List.length_append]; omega
  have hr := h.2.1
  have hnc := h.2.2.1
  have hcm : c ≤ 9223372036854775807 := h.2.2.2
  have H := Lib.hid h
  have t0 : ¬ (m < 0) := by omega
  have t1 : decide (m < x) = false := by simp; omega
  have e2 : IntKind.i64.wrap (-m) = -m := IntWalk.i64_in _ (by omega)
  have t2 : decide (x < -m) = false := by simp; omega
  have tt : ((0 : Int) == 0) = true := rfl
  rw [tt] at C0
  have hs1 : ∀ w, (sizeOf (Try.prog.elem 62)).run Try.prog w = .ok 1 w := fun w => by kernel_rfl
  have hfrom := fun w => run_from (P := Try.prog) 62 (by kernel_rfl) hs1 A n c (vput (foldI x).toNat).length hkn w
  have hr2 : Rd w b 1 (cutA A c (vput (foldI x).toNat).length) (n - (vput (foldI x).toNat).length) (bv R) := by
    have := hr.cutA_ hkn hnc
    rw [← bv_drop, List.drop_left' rfl] at this
    exact this
  have hh : n - (vput (foldI x).toNat).length ≤ c - (vput (foldI x).toNat).length := by omega
  have hh2 : c - (vput (foldI x).toNat).length ≤ maxLen := by simp only [maxLen]; omega
  clear cg h hr hl hs1 hlt hnn
  generalize (vput (foldI x).toNat).length = k at *
  generalize cutA A c k = A2 at *
  generalize n - k = n2 at *
  generalize c - k = c2 at *
  go_enter Try.func64, Try.ntmps64
  go_wp2_with fail
  refine (C0.out).mono ?_; rintro e w1 ⟨rfl, rfl⟩
  go_wp2_with fail
  refine (CG.out).mono ?_; rintro e w1 ⟨rfl, rfl⟩
  go_wp2
  go_ret
  exact ⟨A2, n2, c2, rfl, H.out.set0 hr2 hh hh2, Ch.set_ _ ⟨b, 0, none⟩ _⟩
theorem same_flags (l : List Bool) (A A' : Option Addr) (n m c c' B : Nat) (w : World) (hl : n ≤ 9223372036854775807) (h1 : Rd w B 1 A n (tv l)) (h2 : Rd w B 1 A' m (tv l)) (hB : B ≤ w.heap.size) :
    Calls Try.prog 66 #[.slice A n c, .slice A' m c'] w fun e w' => e = .returned (.bool true) ∧ Below w.heap.size w w' := by
  have e0 : l.length = n := by have := h1.len; simpa [tv] using this
  have e1 := h1.len
  have e2 := h2.len
  rw [e1] at e2
  subst e2
  have hne : ((n : Int) != (n : Int)) = false := by simp
  go_enter Try.func66, Try.ntmps66
  go_wp2
  go_loopw [5] (fun i wr => ∃ j : Nat, j ≤ n ∧ i = .int .i64 j ∧ Below w.heap.size w wr) (fun i _ => n - (intOf i).toNat)
  case atStart => exact ⟨0, Nat.zero_le _, rfl, Below.refl _ _⟩
  case round =>
    obtain ⟨j, hj, rfl, hb⟩ := hrel
    by_cases hlt : j < n
    · obtain ⟨b, o, u, rfl, hb1, hu1, hc1⟩ := ((h1.more hB).below hb).at_ hlt
      obtain ⟨b', o', u', rfl, hb2, hu2, hc2⟩ := ((h2.more hB).below hb).at_ hlt
      rw [tv_get l j (by omega)] at hu1 hu2
      injection hu1 with hu1
      injection hu2 with hu2
      subst hu1 hu2
      generalize l.getD j false = x at *
      have hxx : (x != x) = false := by simp
      go_wp2
      go_quiet (fail)
      go_wp2
      go_roundw
      case rel => exact ⟨j + 1, by omega, by go_num, below_drewN hb _⟩
      case measure => simp [intOf]; omega
    · go_wp2
      go_ret
      exact ⟨rfl, hb⟩
end Go.Proofs.Ytjlmbdhjpjbneaa
