/- Layer 19 (clock): hear, Hear, Restore, Next, by program. -/
import Derived.Test.YtjlmbdhjpjbneaaK2
import Derived.BigRegion
namespace Go.Proofs.Ytjlmbdhjpjbneaa
open Go.RowKit
set_option linter.unusedVariables false
set_option maxRecDepth 100000

/-- Is the stamp heard ahead of the last one (but for the device)? -/
def hlB (a b a' b' : Int) : Bool := decide (orI (cmpI a a') (cmpI b b') < 0)
theorem hlB_iff (a b a' b' : Int) : hlB a b a' b' = true ↔ (a < a' ∨ (a = a' ∧ b < b')) := by
  unfold hlB orI cmpI
  simp only [decide_eq_true_eq]
  repeat' split
  all_goals omega
def hlA (a b a' b' : Int) : Int := if hlB a b a' b' then a' else a
def hlC (a b a' b' : Int) : Int := if hlB a b a' b' then b' else b
theorem ch_set2 {w W : World} (hb : Below w.heap.size w W) (g i j : Nat) (u v : Value) : Ch (fun k => k = g) w ((W.setCell ⟨g, i, none⟩ u).setCell ⟨g, j, none⟩ v).drew :=
  ((below_ch hb (S := fun k => k = g)).trans ((Ch.set_ W ⟨g, i, none⟩ u).trans (Ch.set_ _ ⟨g, j, none⟩ v) (fun k _ h => h)) (fun k _ h => h)).drew
/-- A clock and a boxed stamp. -/
theorem hear_any (W a b c a' b' c' : Int) (w : World) (g : Nat) (h : Ck w g W a b c) :
    Calls Try.prog 87 #[gp g, stV a' b' c'] w fun e w' => e = .returned (.tuple #[]) ∧ Ck w' g W (hlA a b a' b') (hlC a b a' b') c ∧ Ch (fun k => k = g) w w' := by
  have C1 := Lib.hid (fun w => later_any a b c a' b' c' w)
  unfold hlA hlC hlB
  generalize orI (cmpI a a') (cmpI b b') = x at *
  have hd : decide (x < 0) = true ∨ decide (x < 0) = false := by by_cases hx : x < 0 <;> simp [hx]
  unfold gp stV at *
  have hg := h.lt
  have hB := Lib.hid ((Below.refl w.heap.size w).alloc (Nat.le_refl _) (.cells #[.int .i64 a', .int .i64 b', .int .i64 c'] 43))
  have hS := Lib.hid (Whole.new w 43 #[.int .i64 a', .int .i64 b', .int .i64 c'])
  have hK := Lib.hid (Whole.alloc h (.cells #[.int .i64 a', .int .i64 b', .int .i64 c'] 43))
  clear h
  obtain ex | ex := hd
  · simp only [ex, if_true]
    go_enter Try.func87, Try.ntmps87
    go_wp2
    have hb := hB.out
    have hs := hS.out
    have hk := hK.out
    clear hB hS hK
    generalize (w.alloc (.cells #[.int .i64 a', .int .i64 b', .int .i64 c'] 43)) = W1 at *
    generalize hn : w.heap.size = n at *
    have hb' := Lib.hid hb
    have hs' := Lib.hid hs
    have hk' := Lib.hid hk
    have d1 : W1.cell? ⟨g, 1, none⟩ = some (.int .i64 a) := by rw [hk.cell]; rfl
    have d2 : W1.cell? ⟨g, 2, none⟩ = some (.int .i64 b) := by rw [hk.cell]; rfl
    have d3 : W1.cell? ⟨g, 3, none⟩ = some (.int .i64 c) := by rw [hk.cell]; rfl
    have s0 : W1.cell? ⟨n, 0, none⟩ = some (.int .i64 a') := by rw [hs.cell]; rfl
    have s1 : W1.cell? ⟨n, 1, none⟩ = some (.int .i64 b') := by rw [hs.cell]; rfl
    have s2 : W1.cell? ⟨n, 2, none⟩ = some (.int .i64 c') := by rw [hs.cell]; rfl
    clear hb hs hk
    go_still_tail 5, (by kernel_rfl)
    repeat still_step
    change wpList _ _ _ _ _ W1.drew
    have hb := hb'.out.drew
    have hs := hs'.out.drew
    have hk := hk'.out.drew
    clear hb' hs' hk' d1 d2 d3 s0 s1 s2
    generalize W1.drew = W2 at *
    have hb' := Lib.hid hb
    have hs' := Lib.hid hs
    have hk' := Lib.hid hk
    clear hb hs hk
    go_wp2_with fail
    refine (C1.out _).mono ?_; rintro e w3 ⟨rfl, b3⟩
    have hb := hb'.out.trans (below_of_le b3 (by have := hb'.out.size; omega))
    have hs := hs'.out.below b3 hs'.out.lt
    have hk := hk'.out.below b3 hk'.out.lt
    clear hb' hs' hk' b3
    have d1 : w3.cell? ⟨g, 1, none⟩ = some (.int .i64 a) := by rw [hk.cell]; rfl
    have d2 : w3.cell? ⟨g, 2, none⟩ = some (.int .i64 b) := by rw [hk.cell]; rfl
    have s0 : w3.cell? ⟨n, 0, none⟩ = some (.int .i64 a') := by rw [hs.cell]; rfl
    have s1 : w3.cell? ⟨n, 1, none⟩ = some (.int .i64 b') := by rw [hs.cell]; rfl
    have f1 := hk.free 1
    have f2 := hk.free 2
    have hne : n ≠ g := by omega
    have HK := Lib.hid hk
    have HB := Lib.hid hb
    clear hs hk hb
    go_wp2
    generalize w3 = W3 at *
    go_region
    go_end0
    exact ⟨rfl, ((HK.out.set_ 1 (.int .i64 a')).set_ 2 (.int .i64 b')).drew, ch_set2 (hn ▸ HB.out) g _ _ _ _⟩
  · simp only [ex, Bool.false_eq_true, if_false]
    go_enter Try.func87, Try.ntmps87
    go_wp2
    have hb := hB.out
    have hs := hS.out
    have hk := hK.out
    clear hB hS hK
    generalize (w.alloc (.cells #[.int .i64 a', .int .i64 b', .int .i64 c'] 43)) = W1 at *
    generalize hn : w.heap.size = n at *
    have hb' := Lib.hid hb
    have hs' := Lib.hid hs
    have hk' := Lib.hid hk
    have d1 : W1.cell? ⟨g, 1, none⟩ = some (.int .i64 a) := by rw [hk.cell]; rfl
    have d2 : W1.cell? ⟨g, 2, none⟩ = some (.int .i64 b) := by rw [hk.cell]; rfl
    have d3 : W1.cell? ⟨g, 3, none⟩ = some (.int .i64 c) := by rw [hk.cell]; rfl
    have s0 : W1.cell? ⟨n, 0, none⟩ = some (.int .i64 a') := by rw [hs.cell]; rfl
    have s1 : W1.cell? ⟨n, 1, none⟩ = some (.int .i64 b') := by rw [hs.cell]; rfl
    have s2 : W1.cell? ⟨n, 2, none⟩ = some (.int .i64 c') := by rw [hs.cell]; rfl
    clear hb hs hk
    go_still_tail 5, (by kernel_rfl)
    repeat still_step
    change wpList _ _ _ _ _ W1.drew
    have hb := hb'.out.drew
    have hs := hs'.out.drew
    have hk := hk'.out.drew
    clear hb' hs' hk' d1 d2 d3 s0 s1 s2
    generalize W1.drew = W2 at *
    have hb' := Lib.hid hb
    have hs' := Lib.hid hs
    have hk' := Lib.hid hk
    clear hb hs hk
    go_wp2_with fail
    refine (C1.out _).mono ?_; rintro e w3 ⟨rfl, b3⟩
    have hb := hb'.out.trans (below_of_le b3 (by have := hb'.out.size; omega))
    have hs := hs'.out.below b3 hs'.out.lt
    have hk := hk'.out.below b3 hk'.out.lt
    clear hb' hs' hk' b3
    have HK := Lib.hid hk
    have HB := Lib.hid hb
    clear hs hk hb
    go_wp2
    go_end0
    exact ⟨rfl, HK.out, below_ch (hn ▸ HB.out)⟩
end Go.Proofs.Ytjlmbdhjpjbneaa
