/- Layer 19 (clock): Right, Less, later, by program and by the document. -/
import Derived.Test.YtjlmbdhjpjbneaaD2
import Derived.Deep.RegionHeld3
namespace Go.Proofs.Ytjlmbdhjpjbneaa
open Go.RowKit
set_option linter.unusedVariables false
set_option maxRecDepth 100000

/-- A stamp, as a value. -/
def stV (a b c : Int) : Value := .agg #[.int .i64 a, .int .i64 b, .int .i64 c]
def inB (n m : Int) : Bool := decide (0 ≤ n) && decide (n ≤ m)
def stB (a b c : Int) : Bool := inB a 4398046511104 && inB b 65535 && inB c 63
theorem within_any (n m : Int) (w : World) : Calls Try.prog 109 #[.int .i64 n, .int .i64 m] w fun e w' => e = .returned (.bool (inB n m)) ∧ w = w' := by
  go_enter Try.func109, Try.ntmps109
  go_wp2
  all_goals
    go_ret
    refine ⟨ret_bool ?_, rfl⟩
    unfold inB
    simp [*]
    try omega
theorem cright_any (a b c : Int) (w : World) : Calls Try.prog 69 #[stV a b c] w fun e w' => e = .returned (.bool (stB a b c)) ∧ Below w.heap.size w w' := by
  have C1 := Lib.hid (fun w => within_any a 4398046511104 w)
  have C2 := Lib.hid (fun w => within_any b 65535 w)
  have C3 := Lib.hid (fun w => within_any c 63 w)
  unfold stB stV
  have B0 := Lib.hid ((Below.refl w.heap.size w).alloc (Nat.le_refl _) (.cells #[.int .i64 a, .int .i64 b, .int .i64 c] 43))
  generalize inB a 4398046511104 = p at *
  generalize inB b 65535 = q at *
  generalize inB c 63 = r at *
  go_enter Try.func69, Try.ntmps69
  cases p
  · go_wp2_with fail
    refine (C1.out _).mono ?_; rintro e w1 ⟨rfl, rfl⟩
    go_wp2
    go_ret
    exact ⟨rfl, B0.out⟩
  · cases q
    · go_wp2_with fail
      refine (C1.out _).mono ?_; rintro e w1 ⟨rfl, rfl⟩
      go_wp2_with fail
      refine (C2.out _).mono ?_; rintro e w1 ⟨rfl, rfl⟩
      go_wp2
      go_ret
      exact ⟨rfl, B0.out⟩
    · go_wp2_with fail
      refine (C1.out _).mono ?_; rintro e w1 ⟨rfl, rfl⟩
      go_wp2_with fail
      refine (C2.out _).mono ?_; rintro e w1 ⟨rfl, rfl⟩
      go_wp2_with fail
      refine (C3.out _).mono ?_; rintro e w1 ⟨rfl, rfl⟩
      go_wp2
      go_ret
      exact ⟨ret_bool (by simp), B0.out⟩
theorem rcright_any (a b c : Int) (w : World) : Calls Try.prog 70 #[stV a b c] w fun e w' => e = .returned (.bool (stB a b c)) ∧ Below w.heap.size w w' := by
  unfold stV
  go_enter Try.func70, Try.ntmps70
  go_wp2
  all_goals
    go_ret
    refine ⟨?_, (Below.refl _ _).alloc (Nat.le_refl _) _⟩
    refine ret_bool ?_
    unfold stB inB
    simp [*]
    try omega
theorem later_any (a b c a' b' c' : Int) (w : World) : Calls Try.prog 110 #[stV a b c, stV a' b' c'] w fun e w' => e = .returned (.int .i64 (orI (cmpI a a') (cmpI b b'))) ∧ Below w.heap.size w w' := by
  have C1 := Lib.hid (fun w => cmpc_any a a' w)
  have C2 := Lib.hid (fun w => cmpc_any b b' w)
  have C3 := Lib.hid (fun g c B w hr => or2_any (cmpI a a') (cmpI b b') g c B w hr)
  generalize cmpI a a' = x at *
  generalize cmpI b b' = y at *
  unfold stV
  have hB := boxes_new w 43 #[.int .i64 a, .int .i64 b, .int .i64 c] #[.int .i64 a', .int .i64 b', .int .i64 c']
  have hBH := Lib.hid hB
  clear hB
  go_enter Try.func110, Try.ntmps110
  go_wp2_with fail
  obtain ⟨hb, hs, h1, h2⟩ := hBH.out
  have hBl := Lib.hid hb
  clear hb hBH
  generalize (w.alloc (.cells #[.int .i64 a, .int .i64 b, .int .i64 c] 43)).alloc (.cells #[.int .i64 a', .int .i64 b', .int .i64 c'] 43) = W at *
  have c0 : W.cell? ⟨w.heap.size, 0, none⟩ = some (.int .i64 a) := by rw [h1.cell]; rfl
  have c1 : W.cell? ⟨w.heap.size, 1, none⟩ = some (.int .i64 b) := by rw [h1.cell]; rfl
  have c2 : W.cell? ⟨w.heap.size + 1, 0, none⟩ = some (.int .i64 a') := by rw [h2.cell]; rfl
  have c3 : W.cell? ⟨w.heap.size + 1, 1, none⟩ = some (.int .i64 b') := by rw [h2.cell]; rfl
  go_still_tail 10, (by kernel_rfl)
  still_call (stillL (C1.out _))
  repeat still_step
  still_call (stillL (C2.out _))
  repeat still_step
  refine wpStill_nil ?_
  change wpList _ _ _ _ _ W.drew
  clear c0 c1 c2 c3 h1 h2
  have hBl2 := Lib.hid (hBl.out.drew)
  clear hBl
  generalize W.drew = W2 at *
  go_wp2_with fail
  refine (C3.out W2.heap.size 2 _ _ (Rd.fresh _ _ _ 2 rfl)).mono ?_; rintro e w3 ⟨rfl, rfl⟩
  go_wp2
  go_ret
  exact ⟨rfl, hBl2.out.alloc hBl2.out.size _⟩
/-- The document's 'Less'. -/
def stL (a b c a' b' c' : Int) : Bool := if a = a' then (if b = b' then decide (c < c') else decide (b < b')) else decide (a < a')
theorem stLess_ord (a b c a' b' c' : Int) : stL a b c a' b' c' = decide (orI (orI (cmpI a a') (cmpI b b')) (cmpI c c') < 0) := by
  unfold stL orI cmpI
  repeat' split
  all_goals first | rfl | (simp; omega) | omega
theorem cless_any (d i s d' i' s' : Int) (w : World) : Calls Try.prog 71 #[stV d i s, stV d' i' s'] w fun e w' => e = .returned (.bool (stL d i s d' i' s')) ∧ Below w.heap.size w w' := by
  have C1 := Lib.hid (fun n W (h : TwoDots n d i s d' i' s' w W) => (later_any d i s d' i' s' W).mono fun e w' (h' : e = _ ∧ Below W.heap.size W w') => And.intro h'.1 (h.step h'.2))
  have C2 := Lib.hid (fun w => cmpc_any s s' w)
  have C3 := Lib.hid (fun g c B w hr => or2_any (orI (cmpI d d') (cmpI i i')) (cmpI s s') g c B w hr)
  rw [stLess_ord]
  generalize orI (cmpI d d') (cmpI i i') = x at *
  generalize cmpI s s' = y at *
  unfold stV at C1 ⊢
  have hB := Lib.hid (TwoDots.new w d i s d' i' s' 43)
  go_enter Try.func71, Try.ntmps71
  go_wp2_with fail
  have hT := hB.out
  clear hB
  generalize (w.alloc (.cells #[.int .i64 d, .int .i64 i, .int .i64 s] 43)).alloc (.cells #[.int .i64 d', .int .i64 i', .int .i64 s'] 43) = W at *
  generalize hn : w.heap.size = n at *
  obtain ⟨h0, h1, c0, c1, c2, c3, c4, c5⟩ := hT
  go_region_held3 (fun W => Below n w W ∧ n + 2 ≤ W.heap.size ∧ W.cell? ⟨n, 0, none⟩ = some (.int .i64 d) ∧ W.cell? ⟨n, 1, none⟩ = some (.int .i64 i) ∧ W.cell? ⟨n, 2, none⟩ = some (.int .i64 s) ∧
    W.cell? ⟨n + 1, 0, none⟩ = some (.int .i64 d') ∧ W.cell? ⟨n + 1, 1, none⟩ = some (.int .i64 i') ∧ W.cell? ⟨n + 1, 2, none⟩ = some (.int .i64 s')) (first | assumption | exact ⟨by assumption, by assumption, by assumption, by assumption, by assumption, by assumption, by assumption, by assumption⟩ | exact TwoDots.step ⟨by assumption, by assumption, by assumption, by assumption, by assumption, by assumption, by assumption, by assumption⟩ (Below.alloc (Below.refl _ _) (Nat.le_refl _) _) | exact TwoDots.step ⟨by assumption, by assumption, by assumption, by assumption, by assumption, by assumption, by assumption, by assumption⟩ (Below.drew (Below.refl _ _))) ((first | (go_at_call 110; refine (C1.out n _ (by first | assumption | exact ⟨by assumption, by assumption, by assumption, by assumption, by assumption, by assumption, by assumption, by assumption⟩)).mono ?_; rintro e w1 ⟨rfl, s0, s1, s2, s3, s4, s5, s6, s7⟩) | (go_at_call 85; refine (C2.out _).mono ?_; rintro e w1 ⟨rfl, rfl⟩) | (go_at_call 84; refine (C3.out _ _ _ _ (Rd.fresh _ _ _ 2 rfl)).mono ?_; rintro e w1 ⟨rfl, rfl⟩)))
  refine (by assumption : ∀ (a : Act) (w : World), _ → _) _ _ ?_
  go_wp2
  go_ret
  have hz := (by assumption : Below n w _ ∧ n + 2 ≤ _ ∧ _)
  exact ⟨rfl, hn ▸ hz.1⟩
theorem rcless_any (a b c a' b' c' : Int) (w : World) : Calls Try.prog 33 #[stV a b c, stV a' b' c'] w fun e w' => e = .returned (.bool (stL a b c a' b' c')) ∧ Below w.heap.size w w' := by
  unfold stV
  have hB := Lib.hid (boxes_new w 43 #[.int .i64 a, .int .i64 b, .int .i64 c] #[.int .i64 a', .int .i64 b', .int .i64 c'])
  have n1 : (a != a') = true ↔ a ≠ a' := by simp
  have n2 : (b != b') = true ↔ b ≠ b' := by simp
  have n3 : (a != a') = false ↔ a = a' := by simp
  have n4 : (b != b') = false ↔ b = b' := by simp
  go_enter Try.func33, Try.ntmps33
  go_wp2
  all_goals
    go_ret
    refine ⟨ret_bool ?_, hB.out.1⟩
    unfold stL
    repeat' split
    all_goals
      try have q1 := n1.1 (by assumption)
      try have q2 := n2.1 (by assumption)
      try have q3 := n3.1 (by assumption)
      try have q4 := n4.1 (by assumption)
      first | rfl | contradiction | (simp; omega) | omega
end Go.Proofs.Ytjlmbdhjpjbneaa
