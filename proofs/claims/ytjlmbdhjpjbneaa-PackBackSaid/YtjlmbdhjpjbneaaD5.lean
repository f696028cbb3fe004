/- Layer 16 (dot): Next, Text. -/
import Derived.Test.YtjlmbdhjpjbneaaD4
import Derived.Test.YtjlmbdhjpjbneaaT2
namespace Go.Proofs.Ytjlmbdhjpjbneaa
open Go.RowKit
set_option linter.unusedVariables false
set_option maxRecDepth 100000

/-- A dot's text. -/
def dotT (d i s : Int) : List UInt8 := txtL d ++ [46] ++ txtL i ++ [46] ++ txtL s
theorem txtL_len (n : Int) (h : -9223372036854775808 ≤ n) (h' : n ≤ 9223372036854775807) : (txtL n).length ≤ 21 := by
  unfold txtL
  split
  · have := digL_20 n.natAbs (by omega)
    simp; omega
  · have := digL_20 n.toNat (by omega)
    omega
theorem text_dot (n : Nat) (W0 : World) (d i s x : Int) (h : -9223372036854775808 ≤ x) (h' : x ≤ 9223372036854775807) (w : World) (h0 : Below n W0 w) (h1 : n < w.heap.size) (c0 : w.cell? ⟨n, 0, none⟩ = some (.int .i64 d)) (c1 : w.cell? ⟨n, 1, none⟩ = some (.int .i64 i)) (c2 : w.cell? ⟨n, 2, none⟩ = some (.int .i64 s)) :
    Calls Try.prog 86 #[.int .i64 x] w fun e w' => e = .returned (.string (bs (txtL x))) ∧ Below n W0 w' ∧ n < w'.heap.size ∧ w'.cell? ⟨n, 0, none⟩ = some (.int .i64 d) ∧ w'.cell? ⟨n, 1, none⟩ = some (.int .i64 i) ∧ w'.cell? ⟨n, 2, none⟩ = some (.int .i64 s) := by
  refine (text_any x h h' w).mono ?_
  rintro e w' ⟨rfl, b⟩
  refine ⟨rfl, h0.trans (below_of_le b (by omega)), Nat.lt_of_lt_of_le h1 b.size, ?_, ?_, ?_⟩
  all_goals
    rw [b.cell (by simpa using h1)]
    assumption
theorem dtext_any (d i s : Int) (bd : i64B d) (bi : i64B i) (bs_ : i64B s) (w : World) : Calls Try.prog 27 #[dotV d i s] w fun e w' => e = .returned (.string (bs (dotT d i s))) ∧ Below w.heap.size w w' := by
  have l1 := txtL_len d bd.1 bd.2
  have l2 := txtL_len i bi.1 bi.2
  have l3 := txtL_len s bs_.1 bs_.2
  have C1 := Lib.hid (fun (n : Nat) (w : World) => text_dot n w d i s d bd.1 bd.2)
  have C2 := Lib.hid (fun (n : Nat) (w : World) => text_dot n w d i s i bi.1 bi.2)
  have C3 := Lib.hid (fun (n : Nat) (w : World) => text_dot n w d i s s bs_.1 bs_.2)
  have k1 := fun w => cat_any (P := Try.prog) (txtL d) [46] (by simp; omega) w
  have k2 := fun w => cat_any (P := Try.prog) (txtL d ++ [46]) (txtL i) (by simp; omega) w
  have k3 := fun w => cat_any (P := Try.prog) (txtL d ++ [46] ++ txtL i) [46] (by simp; omega) w
  have k4 := fun w => cat_any (P := Try.prog) (txtL d ++ [46] ++ txtL i ++ [46]) (txtL s) (by simp; omega) w
  unfold dotT
  generalize bs (txtL d ++ [46] ++ txtL i ++ [46] ++ txtL s) = R5 at *
  generalize bs (txtL d ++ [46] ++ txtL i ++ [46]) = R4 at *
  generalize bs (txtL d ++ [46] ++ txtL i) = R3 at *
  generalize bs (txtL d ++ [46]) = R2 at *
  have hb : bs [46] = ⟨#[46]⟩ := rfl
  rw [hb] at k1 k3
  generalize bs (txtL d) = T1 at *
  generalize bs (txtL i) = T2 at *
  generalize bs (txtL s) = T3 at *
  clear l1 l2 l3 hb
  have b0 : Below w.heap.size w (w.alloc (.cells #[.int .i64 d, .int .i64 i, .int .i64 s] 25)) := (Below.refl _ _).alloc (Nat.le_refl _) _
  have hw := Whole.new w 25 #[.int .i64 d, .int .i64 i, .int .i64 s]
  have HB := Lib.hid b0
  have HW := Lib.hid hw
  clear b0 hw
  unfold dotV
  go_enter Try.func27, Try.ntmps27
  go_wp2_with fail
  have hw := HW.out
  have e0 := HB.out
  clear HW HB
  generalize w.alloc (.cells #[.int .i64 d, .int .i64 i, .int .i64 s] 25) = W at *
  generalize hn : w.heap.size = n at *
  have d0 : Below n w W.drew := e0.drew
  have d1 : n < W.drew.heap.size := hw.lt
  have d2 : W.drew.cell? ⟨n, 0, none⟩ = some (.int .i64 d) := by rw [hw.drew.cell]; rfl
  have d3 : W.drew.cell? ⟨n, 1, none⟩ = some (.int .i64 i) := by rw [hw.drew.cell]; rfl
  have d4 : W.drew.cell? ⟨n, 2, none⟩ = some (.int .i64 s) := by rw [hw.drew.cell]; rfl
  clear e0 hw
  go_region_held3 (fun W => Below n w W ∧ n < W.heap.size ∧ W.cell? ⟨n, 0, none⟩ = some (.int .i64 d) ∧ W.cell? ⟨n, 1, none⟩ = some (.int .i64 i) ∧ W.cell? ⟨n, 2, none⟩ = some (.int .i64 s)) (first | with_reducible assumption | exact ⟨by with_reducible assumption, by with_reducible assumption, by with_reducible assumption, by with_reducible assumption, by with_reducible assumption⟩) ((first
    | (go_at_call_of 86 (Value.int .i64 d); refine (C1.out _ _ _ (by with_reducible assumption) (by with_reducible assumption) (by with_reducible assumption) (by with_reducible assumption) (by with_reducible assumption)).mono ?_; rintro e w2 ⟨rfl, p0, p1, p2, p3, p4⟩)
    | (go_at_call_of 86 (Value.int .i64 i); refine (C2.out _ _ _ (by with_reducible assumption) (by with_reducible assumption) (by with_reducible assumption) (by with_reducible assumption) (by with_reducible assumption)).mono ?_; rintro e w3 ⟨rfl, p0, p1, p2, p3, p4⟩)
    | (go_at_call_of 86 (Value.int .i64 s); refine (C3.out _ _ _ (by with_reducible assumption) (by with_reducible assumption) (by with_reducible assumption) (by with_reducible assumption) (by with_reducible assumption)).mono ?_; rintro e w4 ⟨rfl, p0, p1, p2, p3, p4⟩)))
  refine (by assumption : ∀ (a : Act) (w : World), _ → _) _ _ ?_
  go_wp2
  go_ret
  exact ⟨rfl, hn ▸ p0⟩
/-- Two boxes, and a world in which both are left. -/
theorem boxes_new2 (w : World) (t : TypeId) (xs ys : Array Value) : ∀ w1, Below ((w.alloc (.cells xs t)).alloc (.cells ys t)).heap.size ((w.alloc (.cells xs t)).alloc (.cells ys t)) w1 → Below w.heap.size w w1 ∧ Whole w1 w.heap.size t xs ∧ Whole w1 (w.heap.size + 1) t ys := by
  intro w1 b1
  obtain ⟨h0, h1, h2, h3⟩ := boxes_new w t xs ys
  exact ⟨below_step h0 b1, h2.below b1 h2.lt, h3.below b1 h3.lt⟩
/-- 'Next'. -/
def nextV (d i s : Int) : Value := if dotB d i s = true ∧ s ≠ 4294967296 then .tuple #[dotV d i (s + 1), .int .i64 0] else .tuple #[dotV 0 0 0, .int .i64 4]
theorem next_any (d i s : Int) (w : World) : Calls Try.prog 17 #[dotV d i s] w fun e w' => e = .returned (nextV d i s) ∧ Below w.heap.size w w' := by
  have C1 := Lib.hid (fun w => right_any d i s w)
  have hB : dotB d i s = true → 1 ≤ s ∧ s ≤ 4294967296 := by
    intro hb
    simp [dotB, actB] at hb
    omega
  have hN : nextV d i s = if dotB d i s = true ∧ s ≠ 4294967296 then .tuple #[dotV d i (s + 1), .int .i64 0] else .tuple #[dotV 0 0 0, .int .i64 4] := rfl
  rw [hN]
  clear hN
  generalize dotB d i s = q at *
  have hBx := Lib.hid (boxes_new2 w 25 #[.int .i64 d, .int .i64 i, .int .i64 s] #[.int .i64 0, .int .i64 0, .int .i64 0])
  unfold dotV at C1 ⊢
  cases q
  · rw [if_neg (by simp)]
    clear hB
    go_enter Try.func17, Try.ntmps17
    go_wp2_with fail
    refine (C1.out _).mono ?_; rintro e w1 ⟨rfl, b1⟩
    obtain ⟨b2, h1, h2⟩ := hBx.out _ b1
    have z0 : w1.cell? ⟨w.heap.size + 1, 0, none⟩ = some (.int .i64 0) := by rw [h2.cell]; rfl
    have z1 : w1.cell? ⟨w.heap.size + 1, 1, none⟩ = some (.int .i64 0) := by rw [h2.cell]; rfl
    have z2 : w1.cell? ⟨w.heap.size + 1, 2, none⟩ = some (.int .i64 0) := by rw [h2.cell]; rfl
    have f0 := h2.free 0
    have f1 := h2.free 1
    have f2 := h2.free 2
    have hz := ((h2.set_ 0 (.int .i64 0)).set_ 1 (.int .i64 0)).set_ 2 (.int .i64 0)
    have B2 := Lib.hid (((b2.setCell (p := ⟨w.heap.size + 1, 0, none⟩) (by simp) (.int .i64 0)).setCell (p := ⟨w.heap.size + 1, 1, none⟩) (by simp) (.int .i64 0)).setCell (p := ⟨w.heap.size + 1, 2, none⟩) (by simp) (.int .i64 0))
    have Z := Lib.hid hz
    clear b1 b2 h1 hBx C1 hz
    go_wp2
    have hz := Z.out
    generalize (((w1.setCell ⟨w.heap.size + 1, 0, none⟩ (.int .i64 0)).setCell ⟨w.heap.size + 1, 1, none⟩ (.int .i64 0)).setCell ⟨w.heap.size + 1, 2, none⟩ (.int .i64 0)) = W at *
    have c0 : W.cell? ⟨w.heap.size + 1, 0, none⟩ = some (.int .i64 0) := by rw [hz.cell]; rfl
    have c1 : W.cell? ⟨w.heap.size + 1, 1, none⟩ = some (.int .i64 0) := by rw [hz.cell]; rfl
    have c2 : W.cell? ⟨w.heap.size + 1, 2, none⟩ = some (.int .i64 0) := by rw [hz.cell]; rfl
    exact bodyPost_ret (v := .tuple #[.agg #[.int .i64 0, .int .i64 0, .int .i64 0], .int .i64 4]) (by simp [results, Try.results17, go_sem, c0, c1, c2]) rfl ⟨rfl, B2.out⟩
  · by_cases hm : s = 4294967296
    · rw [if_neg (by simp [hm])]
      subst hm
      go_enter Try.func17, Try.ntmps17
      go_wp2_with fail
      refine (C1.out _).mono ?_; rintro e w1 ⟨rfl, b1⟩
      obtain ⟨b2, h1, h2⟩ := hBx.out _ b1
      have y2 : w1.cell? ⟨w.heap.size, 2, none⟩ = some (.int .i64 4294967296) := by rw [h1.cell]; rfl
      have z0 : w1.cell? ⟨w.heap.size + 1, 0, none⟩ = some (.int .i64 0) := by rw [h2.cell]; rfl
      have z1 : w1.cell? ⟨w.heap.size + 1, 1, none⟩ = some (.int .i64 0) := by rw [h2.cell]; rfl
      have z2 : w1.cell? ⟨w.heap.size + 1, 2, none⟩ = some (.int .i64 0) := by rw [h2.cell]; rfl
      have f0 := h2.free 0
      have f1 := h2.free 1
      have f2 := h2.free 2
      have hz := ((h2.set_ 0 (.int .i64 0)).set_ 1 (.int .i64 0)).set_ 2 (.int .i64 0)
      have B2 := Lib.hid (((b2.setCell (p := ⟨w.heap.size + 1, 0, none⟩) (by simp) (.int .i64 0)).setCell (p := ⟨w.heap.size + 1, 1, none⟩) (by simp) (.int .i64 0)).setCell (p := ⟨w.heap.size + 1, 2, none⟩) (by simp) (.int .i64 0))
      have Z := Lib.hid hz
      clear b1 b2 h1 hBx C1 hz hB
      go_wp2
      have hz := Z.out
      generalize (((w1.setCell ⟨w.heap.size + 1, 0, none⟩ (.int .i64 0)).setCell ⟨w.heap.size + 1, 1, none⟩ (.int .i64 0)).setCell ⟨w.heap.size + 1, 2, none⟩ (.int .i64 0)) = W at *
      have c0 : W.cell? ⟨w.heap.size + 1, 0, none⟩ = some (.int .i64 0) := by rw [hz.cell]; rfl
      have c1 : W.cell? ⟨w.heap.size + 1, 1, none⟩ = some (.int .i64 0) := by rw [hz.cell]; rfl
      have c2 : W.cell? ⟨w.heap.size + 1, 2, none⟩ = some (.int .i64 0) := by rw [hz.cell]; rfl
      exact bodyPost_ret (v := .tuple #[.agg #[.int .i64 0, .int .i64 0, .int .i64 0], .int .i64 4]) (by simp [results, Try.results17, go_sem, c0, c1, c2]) rfl ⟨rfl, B2.out⟩
    · rw [if_pos ⟨rfl, hm⟩]
      have t1 : (s == 4294967296) = false := by simp [hm]
      have ew : IntKind.i64.wrap (s + 1) = s + 1 := IntWalk.i64_in _ (by have := hB rfl; omega)
      go_enter Try.func17, Try.ntmps17
      go_wp2_with fail
      refine (C1.out _).mono ?_; rintro e w1 ⟨rfl, b1⟩
      obtain ⟨b2, h1, h2⟩ := hBx.out _ b1
      have y0 : w1.cell? ⟨w.heap.size, 0, none⟩ = some (.int .i64 d) := by rw [h1.cell]; rfl
      have y1 : w1.cell? ⟨w.heap.size, 1, none⟩ = some (.int .i64 i) := by rw [h1.cell]; rfl
      have y2 : w1.cell? ⟨w.heap.size, 2, none⟩ = some (.int .i64 s) := by rw [h1.cell]; rfl
      have z0 : w1.cell? ⟨w.heap.size + 1, 0, none⟩ = some (.int .i64 0) := by rw [h2.cell]; rfl
      have z1 : w1.cell? ⟨w.heap.size + 1, 1, none⟩ = some (.int .i64 0) := by rw [h2.cell]; rfl
      have z2 : w1.cell? ⟨w.heap.size + 1, 2, none⟩ = some (.int .i64 0) := by rw [h2.cell]; rfl
      have g2 := h1.free 2
      have f0 := h2.free 0
      have f1 := h2.free 1
      have f2 := h2.free 2
      have hz := (((h2.far (p := ⟨w.heap.size, 2, none⟩) (by simp) (.int .i64 (s + 1))).set_ 0 (.int .i64 d)).set_ 1 (.int .i64 i)).set_ 2 (.int .i64 (s + 1))
      have B2 := Lib.hid ((((b2.setCell (p := ⟨w.heap.size, 2, none⟩) (by simp) (.int .i64 (s + 1))).setCell (p := ⟨w.heap.size + 1, 0, none⟩) (by simp) (.int .i64 d)).setCell (p := ⟨w.heap.size + 1, 1, none⟩) (by simp) (.int .i64 i)).setCell (p := ⟨w.heap.size + 1, 2, none⟩) (by simp) (.int .i64 (s + 1)))
      have Z := Lib.hid hz
      clear b1 b2 h1 hBx C1 hz hm hB
      go_wp2
      have hz := Z.out
      generalize ((((w1.setCell ⟨w.heap.size, 2, none⟩ (.int .i64 (s + 1))).setCell ⟨w.heap.size + 1, 0, none⟩ (.int .i64 d)).setCell ⟨w.heap.size + 1, 1, none⟩ (.int .i64 i)).setCell ⟨w.heap.size + 1, 2, none⟩ (.int .i64 (s + 1))) = W at *
      have c0 : W.cell? ⟨w.heap.size + 1, 0, none⟩ = some (.int .i64 d) := by rw [hz.cell]; rfl
      have c1 : W.cell? ⟨w.heap.size + 1, 1, none⟩ = some (.int .i64 i) := by rw [hz.cell]; rfl
      have c2 : W.cell? ⟨w.heap.size + 1, 2, none⟩ = some (.int .i64 (s + 1)) := by rw [hz.cell]; rfl
      exact bodyPost_ret (v := .tuple #[.agg #[.int .i64 d, .int .i64 i, .int .i64 (s + 1)], .int .i64 0]) (by simp [results, Try.results17, go_sem, c0, c1, c2]) rfl ⟨rfl, B2.out⟩
end Go.Proofs.Ytjlmbdhjpjbneaa
