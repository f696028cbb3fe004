/- Layers 5 and 19: the document's ReadNum; the document's Get of a stamp; a nil clock. -/
import Derived.Test.YtjlmbdhjpjbneaaK12
namespace Go.Proofs.Ytjlmbdhjpjbneaa
open Go.RowKit
set_option linter.unusedVariables false
set_option maxRecDepth 100000

/-- The document's reader, as a value. -/
def rdV (A : Option Addr) (n c : Nat) (er : Int) : Value := .agg #[.slice A n c, .int .i64 er]
theorem rfail_any (A : Option Addr) (n c : Nat) (er e : Int) (w : World) : Calls Try.prog 124 #[rdV A n c er, .int .i64 e] w fun x w' => x = .returned (rdV A n c e) ∧ Below w.heap.size w w' := by
  unfold rdV
  go_enter Try.func124, Try.ntmps124
  go_wp2
  refine bodyPost_ret (v := .agg #[.slice A n c, .int .i64 e]) (by simp [results, Try.results124, go_sem]) rfl ⟨rfl, ?_⟩
  exact ((Below.refl _ _).alloc (Nat.le_refl _) _).alloc (by simp) _
/-- What ReadNum hands back. -/
def RN (w : World) (B : Nat) (r : Nat × List UInt8 × Int) (e : Ending) (w' : World) : Prop :=
  ∃ A n c, e = .returned (.tuple #[rdV A n c r.2.2, .int .u64 (r.1 : Int)]) ∧ Rd w' B 1 A n (bv r.2.1) ∧ n ≤ c ∧ c ≤ maxLen ∧ Below w.heap.size w w'
theorem readnum_any (w : World) (B : Nat) (A : Option Addr) (n c : Nat) (l : List UInt8) (er : Int) (most : Nat) (hr : Rd w B 1 A n (bv l)) (hnc : n ≤ c) (hcm : c ≤ maxLen) (hB : B ≤ w.heap.size) :
    Calls Try.prog 111 #[rdV A n c er, .int .u64 most] w (RN w B (rnumR most l er)) := by
  have hl : l.length = n := by have := hr.len; rw [bv_length] at this; exact this
  have hcm' : c ≤ 9223372036854775807 := hcm
  have hBx := Lib.hid (boxes_new w 108 #[.slice A n c, .int .i64 er] #[.slice none 0 0, .int .i64 0])
  have b0 := Lib.hid (((Below.refl w.heap.size w).alloc (Nat.le_refl _) (.cells #[.slice A n c, .int .i64 er] 108)).alloc (by simp) (.cells #[.slice A n c, .int .i64 er] 108))
  by_cases hz : er = 0
  case neg =>
    have t0 : (er != 0) = true := by simp; exact hz
    have e0 : rnumR most l er = (0, l, er) := by simp [rnumR, hz]
    rw [e0]
    have hr' := Lib.hid (hr.below (below_of_le b0.out hB))
    clear hBx
    unfold rdV
    go_enter Try.func111, Try.ntmps111
    go_wp2
    exact bodyPost_ret (v := .tuple #[.agg #[.slice A n c, .int .i64 er], .int .u64 0]) (by simp [results, Try.results111, go_sem]) rfl ⟨A, n, c, rfl, hr'.out, hnc, hcm, b0.out⟩
  subst hz
  have C1 := Lib.hid (fun w hr => rget_any A n c B l w (by omega) hr)
  have C2 := Lib.hid (fun e w => rfail_any A n c 0 e w)
  unfold rdV at C2
  have hr0 : Rd ((w.alloc (.cells #[.slice A n c, .int .i64 0] 108)).alloc (.cells #[.slice none 0 0, .int .i64 0] 108)) B 1 A n (bv l) := hr.below (below_of_le hBx.out.1 hB)
  have fin : ∀ (er' : Int) (w1 : World), Below ((w.alloc (.cells #[.slice A n c, .int .i64 0] 108)).alloc (.cells #[.slice none 0 0, .int .i64 0] 108)).heap.size ((w.alloc (.cells #[.slice A n c, .int .i64 0] 108)).alloc (.cells #[.slice none 0 0, .int .i64 0] 108)) w1 →
      Below w.heap.size w w1 ∧ Whole w1 (w.heap.size + 1) 108 #[.slice none 0 0, .int .i64 0] ∧ Rd w1 B 1 A n (bv l) := fun er' w1 b1 => ⟨below_step hBx.out.1 b1, hBx.out.2.2.2.below b1 hBx.out.2.2.2.lt, hr0.below (below_of_le b1 (by have := hBx.out.2.1; omega))⟩
  have FIN := Lib.hid fin
  clear fin
  rcases vget_err l 0 0 with ⟨x, k, hv⟩ | hv | hv
  · obtain ⟨hx, hk, r, hlr⟩ := vget_only l x k hv
    have hkn : k ≤ n := by rw [hk, ← hl, hlr, List.length_append]; omega
    have hd : getV (vget 0 0 l) = .tuple #[.int .u64 (x : Int), .int .i64 (k : Int), .int .i64 0] := by rw [hv]; rfl
    rw [hd] at C1
    by_cases hm : most < x
    · have e0 : rnumR most l 0 = (0, l, 3) := by simp [rnumR, hv, hm]
      have t1 : decide ((most : Int) < (x : Int)) = true := by simp; exact hm
      have t2 : decide (most < x) = true := by simp; exact hm
      rw [e0]
      clear e0 hd hv hlr hk hr
      unfold rdV
      go_enter Try.func111, Try.ntmps111
      go_wp2_with fail
      refine (C1.out _ hr0).mono ?_; rintro e w1 ⟨rfl, rfl⟩
      go_wp2_with fail
      refine (C2.out _ _).mono ?_; rintro e w1 ⟨rfl, b1⟩
      obtain ⟨hb, hz, hr1⟩ := FIN.out 0 w1 b1
      generalize hN : w.heap.size = N at *
      have z0 : w1.cell? ⟨N + 1, 0, none⟩ = some (.slice none 0 0) := by rw [hz.cell]; rfl
      have z1 : w1.cell? ⟨N + 1, 1, none⟩ = some (.int .i64 0) := by rw [hz.cell]; rfl
      have f0 := hz.free 0
      have f1 := hz.free 1
      have Z := Lib.hid ((hz.set_ 0 (.slice A n c)).set_ 1 (.int .i64 3))
      have RB := Lib.hid ((hr1.setCell (p := ⟨N + 1, 0, none⟩) (by show B ≤ N + 1; omega) (.slice A n c)).setCell (p := ⟨N + 1, 1, none⟩) (by show B ≤ N + 1; omega) (.int .i64 3))
      have BB := Lib.hid ((hb.setCell (p := ⟨N + 1, 0, none⟩) (by show N ≤ N + 1; omega) (.slice A n c)).setCell (p := ⟨N + 1, 1, none⟩) (by show N ≤ N + 1; omega) (.int .i64 3))
      clear hz hr1 hb FIN C1 C2 hr0 hBx b1
      go_wp2
      have zz := Z.out
      have rb := RB.out
      have bb := BB.out
      generalize ((w1.setCell ⟨N + 1, 0, none⟩ (.slice A n c)).setCell ⟨N + 1, 1, none⟩ (.int .i64 3)) = W9 at *
      have x0 : W9.cell? ⟨N + 1, 0, none⟩ = some (.slice A n c) := by rw [zz.cell]; rfl
      have x1 : W9.cell? ⟨N + 1, 1, none⟩ = some (.int .i64 3) := by rw [zz.cell]; rfl
      exact bodyPost_ret (v := .tuple #[.agg #[.slice A n c, .int .i64 3], .int .u64 0]) (by simp [results, Try.results111, go_sem, x0, x1]) rfl ⟨A, n, c, rfl, rb, hnc, hcm, hN ▸ bb⟩
    · have e0 : rnumR most l 0 = (x, l.drop k, 0) := by simp [rnumR, hv, hm]
      have t1 : decide ((most : Int) < (x : Int)) = false := by simp; omega
      have t2 : decide (most < x) = false := by simp; omega
      rw [e0]
      clear e0 hd hv hlr hk
      have hs : ∀ w, (sizeOf (Try.prog.elem 62)).run Try.prog w = .ok 1 w := fun w => by kernel_rfl
      have hsl := run_from (P := Try.prog) 62 (by kernel_rfl) hs A n c k hkn
      have hr2 : Rd w B 1 (cutA A c k) (n - k) (bv (l.drop k)) := by rw [bv_drop]; exact hr.cutA_ hkn hnc
      have hh : n - k ≤ c - k := by omega
      have hh2 : c - k ≤ maxLen := by simp only [maxLen]; omega
      clear FIN C2 b0 hr
      generalize cutA A c k = A2 at *
      generalize n - k = n2 at *
      generalize c - k = c2 at *
      have b2 := Lib.hid (((Below.refl w.heap.size w).alloc (Nat.le_refl _) (.cells #[.slice A n c, .int .i64 0] 108)).alloc (by simp) (.cells #[.slice A2 n2 c2, .int .i64 0] 108))
      have hr3 := Lib.hid (hr2.below (below_of_le b2.out hB))
      clear hr2
      unfold rdV
      go_enter Try.func111, Try.ntmps111
      go_wp2_with fail
      refine (C1.out _ hr0).mono ?_; rintro e w1 ⟨rfl, rfl⟩
      go_wp2
      exact bodyPost_ret (v := .tuple #[.agg #[.slice A2 n2 c2, .int .i64 0], .int .u64 x]) (by simp [results, Try.results111, go_sem]) rfl ⟨A2, n2, c2, rfl, hr3.out, hh, hh2, b2.out⟩
  all_goals
    have e0 : rnumR most l 0 = (0, l, (vget 0 0 l).2.2) := by simp [rnumR, hv]
    rw [e0]
    rw [hv] at C1 ⊢
    simp only [getV] at C1
    clear e0 hv hr
    unfold rdV
    go_enter Try.func111, Try.ntmps111
    go_wp2_with fail
    refine (C1.out _ hr0).mono ?_; rintro e w1 ⟨rfl, rfl⟩
    go_wp2_with fail
    refine (C2.out _ _).mono ?_; rintro e w1 ⟨rfl, b1⟩
    obtain ⟨hb, hz, hr1⟩ := FIN.out 0 w1 b1
    generalize hN : w.heap.size = N at *
    have z0 : w1.cell? ⟨N + 1, 0, none⟩ = some (.slice none 0 0) := by rw [hz.cell]; rfl
    have z1 : w1.cell? ⟨N + 1, 1, none⟩ = some (.int .i64 0) := by rw [hz.cell]; rfl
    have f0 := hz.free 0
    have f1 := hz.free 1
    clear FIN C1 C2 hr0 hBx b1
  · have Z := Lib.hid ((hz.set_ 0 (.slice A n c)).set_ 1 (.int .i64 1))
    have RB := Lib.hid ((hr1.setCell (p := ⟨N + 1, 0, none⟩) (by show B ≤ N + 1; omega) (.slice A n c)).setCell (p := ⟨N + 1, 1, none⟩) (by show B ≤ N + 1; omega) (.int .i64 1))
    have BB := Lib.hid ((hb.setCell (p := ⟨N + 1, 0, none⟩) (by show N ≤ N + 1; omega) (.slice A n c)).setCell (p := ⟨N + 1, 1, none⟩) (by show N ≤ N + 1; omega) (.int .i64 1))
    clear hz hr1 hb
    go_wp2
    have zz := Z.out
    have rb := RB.out
    have bb := BB.out
    generalize ((w1.setCell ⟨N + 1, 0, none⟩ (.slice A n c)).setCell ⟨N + 1, 1, none⟩ (.int .i64 1)) = W9 at *
    have x0 : W9.cell? ⟨N + 1, 0, none⟩ = some (.slice A n c) := by rw [zz.cell]; rfl
    have x1 : W9.cell? ⟨N + 1, 1, none⟩ = some (.int .i64 1) := by rw [zz.cell]; rfl
    exact bodyPost_ret (v := .tuple #[.agg #[.slice A n c, .int .i64 1], .int .u64 0]) (by simp [results, Try.results111, go_sem, x0, x1]) rfl ⟨A, n, c, rfl, rb, hnc, hcm, hN ▸ bb⟩
  · have Z := Lib.hid ((hz.set_ 0 (.slice A n c)).set_ 1 (.int .i64 2))
    have RB := Lib.hid ((hr1.setCell (p := ⟨N + 1, 0, none⟩) (by show B ≤ N + 1; omega) (.slice A n c)).setCell (p := ⟨N + 1, 1, none⟩) (by show B ≤ N + 1; omega) (.int .i64 2))
    have BB := Lib.hid ((hb.setCell (p := ⟨N + 1, 0, none⟩) (by show N ≤ N + 1; omega) (.slice A n c)).setCell (p := ⟨N + 1, 1, none⟩) (by show N ≤ N + 1; omega) (.int .i64 2))
    clear hz hr1 hb
    go_wp2
    have zz := Z.out
    have rb := RB.out
    have bb := BB.out
    generalize ((w1.setCell ⟨N + 1, 0, none⟩ (.slice A n c)).setCell ⟨N + 1, 1, none⟩ (.int .i64 2)) = W9 at *
    have x0 : W9.cell? ⟨N + 1, 0, none⟩ = some (.slice A n c) := by rw [zz.cell]; rfl
    have x1 : W9.cell? ⟨N + 1, 1, none⟩ = some (.int .i64 2) := by rw [zz.cell]; rfl
    exact bodyPost_ret (v := .tuple #[.agg #[.slice A n c, .int .i64 2], .int .u64 0]) (by simp [results, Try.results111, go_sem, x0, x1]) rfl ⟨A, n, c, rfl, rb, hnc, hcm, hN ▸ bb⟩
end Go.Proofs.Ytjlmbdhjpjbneaa
