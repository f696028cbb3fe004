/- Comparing actors, dots: no draw is lost (slices.SortFunc wants to know). -/
import Derived.Test.YtailbppddnegoaaD2
import Derived.Sort.Grow
namespace Go.Proofs.Ytailbppddnegoaa
open Go.RowKit Go.Sort
set_option linter.unusedVariables false
set_option maxRecDepth 100000

/-- As Below, and no draw is lost. -/
def UpN (n : Nat) (w w' : World) : Prop := Below n w w' ∧ w.drawn ≤ w'.drawn
theorem UpN.refl (n : Nat) (w : World) : UpN n w w := ⟨Below.refl _ _, Nat.le_refl _⟩
theorem UpN.drew {n : Nat} {w w' : World} (h : UpN n w w') : UpN n w w'.drew := ⟨h.1.drew, by have := h.2; show w.drawn ≤ w'.drawn + 1; omega⟩
theorem UpN.alloc {n : Nat} {w w' : World} (h : UpN n w w') (hn : n ≤ w'.heap.size) (o : Obj) : UpN n w (w'.alloc o) := ⟨h.1.alloc hn o, h.2⟩
theorem UpN.trans {n : Nat} {w w1 w2 : World} (h : UpN n w w1) (k : UpN n w1 w2) : UpN n w w2 := ⟨h.1.trans k.1, Nat.le_trans h.2 k.2⟩
theorem UpN.le {n m : Nat} {w w' : World} (h : UpN n w w') (hm : m ≤ n) : UpN m w w' := ⟨below_of_le h.1 hm, h.2⟩
theorem UpN.grow {w w' : World} (h : UpN w.heap.size w w') : ∃ q os, w' = Go.Sort.grow (w.drewN q) os := by
  refine ⟨w'.drawn - w.drawn, w'.heap.extract w.heap.size w'.heap.size, ?_⟩
  have hd := h.2
  have hs := h.1.size
  have e : w'.heap = w.heap ++ w'.heap.extract w.heap.size w'.heap.size := by
    apply Array.ext_getElem?
    intro i
    by_cases hi : i < w.heap.size
    · rw [h.1.block i hi, Array.getElem?_append_left hi]
    · rw [Array.getElem?_append_right (by omega), Array.getElem?_extract]
      split
      · congr 1; omega
      · rw [Array.getElem?_eq_none (by omega)]
  cases w' with
  | mk heap tape drawn os output =>
    cases w with
    | mk heap0 tape0 drawn0 os0 output0 =>
      obtain ⟨h1, h2, h3, h4, h5⟩ := h.1
      simp only at h1 h2 h3 hd e
      subst h1 h2 h3
      unfold Go.Sort.grow World.drewN
      simp only [World.mk.injEq, and_true, true_and]
      exact ⟨e, by omega⟩
theorem up_boxes (w : World) (t : TypeId) (xs ys : Array Value) : UpN w.heap.size w ((w.alloc (.cells xs t)).alloc (.cells ys t)) :=
  ((UpN.refl _ w).alloc (Nat.le_refl _) _).alloc (by simp) _
theorem compare_up (d i d' i' : Int) (w : World) : Calls Try.prog 106 #[actV d i, actV d' i'] w fun e w' => e = .returned (.int .i64 (orI (cmpI d d') (cmpI i i'))) ∧ UpN w.heap.size w w' := by
  have C1 := Lib.hid (fun w => cmpc_any d d' w)
  have C2 := Lib.hid (fun w => cmpc_any i i' w)
  have C3 := Lib.hid (fun g c B w hr => or2_any (cmpI d d') (cmpI i i') g c B w hr)
  generalize cmpI d d' = x at *
  generalize cmpI i i' = y at *
  unfold actV
  have hB := boxes_new w 25 #[.int .i64 d, .int .i64 i] #[.int .i64 d', .int .i64 i']
  have hU := Lib.hid (up_boxes w 25 #[.int .i64 d, .int .i64 i] #[.int .i64 d', .int .i64 i'])
  have hBH := Lib.hid hB
  clear hB
  go_enter Try.func106, Try.ntmps106
  go_wp2_with fail
  obtain ⟨hb, hs, h1, h2⟩ := hBH.out
  clear hb hBH
  generalize (w.alloc (.cells #[.int .i64 d, .int .i64 i] 25)).alloc (.cells #[.int .i64 d', .int .i64 i'] 25) = W at *
  have c0 : W.cell? ⟨w.heap.size, 0, none⟩ = some (.int .i64 d) := by rw [h1.cell]; rfl
  have c1 : W.cell? ⟨w.heap.size, 1, none⟩ = some (.int .i64 i) := by rw [h1.cell]; rfl
  have c2 : W.cell? ⟨w.heap.size + 1, 0, none⟩ = some (.int .i64 d') := by rw [h2.cell]; rfl
  have c3 : W.cell? ⟨w.heap.size + 1, 1, none⟩ = some (.int .i64 i') := by rw [h2.cell]; rfl
  go_still_tail 10, (by kernel_rfl)
  still_call (stillL (C1.out _))
  repeat still_step
  still_call (stillL (C2.out _))
  repeat still_step
  refine wpStill_nil ?_
  change wpList _ _ _ _ _ W.drew
  clear c0 c1 c2 c3 h1 h2
  have hBl2 := Lib.hid (hU.out.drew)
  clear hU
  generalize W.drew = W2 at *
  go_wp2_with fail
  refine (C3.out W2.heap.size 2 _ _ (Rd.fresh _ _ _ 2 rfl)).mono ?_; rintro e w3 ⟨rfl, rfl⟩
  go_wp2
  go_ret
  exact ⟨rfl, hBl2.out.alloc hBl2.out.1.size _⟩
/-- Two boxed dots, as cells. -/
def TwoUp (n : Nat) (d i s d' i' s' : Int) (w W : World) : Prop :=
  UpN n w W ∧ n + 2 ≤ W.heap.size ∧ W.cell? ⟨n, 0, none⟩ = some (.int .i64 d) ∧ W.cell? ⟨n, 1, none⟩ = some (.int .i64 i) ∧ W.cell? ⟨n, 2, none⟩ = some (.int .i64 s) ∧
    W.cell? ⟨n + 1, 0, none⟩ = some (.int .i64 d') ∧ W.cell? ⟨n + 1, 1, none⟩ = some (.int .i64 i') ∧ W.cell? ⟨n + 1, 2, none⟩ = some (.int .i64 s')
theorem TwoUp.step {n : Nat} {d i s d' i' s' : Int} {w W W' : World} (h : TwoUp n d i s d' i' s' w W) (b : UpN W.heap.size W W') : TwoUp n d i s d' i' s' w W' := by
  obtain ⟨h0, h1, c0, c1, c2, c3, c4, c5⟩ := h
  have hb := b.1.size
  refine ⟨h0.trans (b.le (by omega)), by omega, ?_, ?_, ?_, ?_, ?_, ?_⟩
  all_goals
    rw [b.1.cell (by simp only; omega)]
    assumption
theorem TwoUp.new (w : World) (d i s d' i' s' : Int) (t : TypeId) : TwoUp w.heap.size d i s d' i' s' w ((w.alloc (.cells #[.int .i64 d, .int .i64 i, .int .i64 s] t)).alloc (.cells #[.int .i64 d', .int .i64 i', .int .i64 s'] t)) := by
  obtain ⟨h0, h1, h2, h3⟩ := boxes_new w t #[.int .i64 d, .int .i64 i, .int .i64 s] #[.int .i64 d', .int .i64 i', .int .i64 s']
  refine ⟨up_boxes _ _ _ _, by omega, ?_, ?_, ?_, ?_, ?_, ?_⟩
  all_goals first | (rw [h2.cell]; rfl) | (rw [h3.cell]; rfl)
theorem order_up (d i s d' i' s' : Int) (w : World) : Calls Try.prog 92 #[dotV d i s, dotV d' i' s'] w fun e w' => e = .returned (.int .i64 (ordI d i s d' i' s')) ∧ UpN w.heap.size w w' := by
  have C1 := Lib.hid (fun n W (h : TwoUp n d i s d' i' s' w W) => (compare_up d i d' i' W).mono fun e w' (h' : e = _ ∧ UpN W.heap.size W w') => And.intro h'.1 (h.step h'.2))
  have C2 := Lib.hid (fun w => cmpc_any s s' w)
  have C3 := Lib.hid (fun g c B w hr => or2_any (orI (cmpI d d') (cmpI i i')) (cmpI s s') g c B w hr)
  unfold ordI
  generalize orI (cmpI d d') (cmpI i i') = x at *
  generalize cmpI s s' = y at *
  unfold actV at C1
  unfold dotV
  have hB := Lib.hid (TwoUp.new w d i s d' i' s' 27)
  go_enter Try.func92, Try.ntmps92
  go_wp2_with fail
  have hT := hB.out
  clear hB
  generalize (w.alloc (.cells #[.int .i64 d, .int .i64 i, .int .i64 s] 27)).alloc (.cells #[.int .i64 d', .int .i64 i', .int .i64 s'] 27) = W at *
  generalize hn : w.heap.size = n at *
  obtain ⟨h0, h1, c0, c1, c2, c3, c4, c5⟩ := hT
  go_region_held3 (fun W => UpN n w W ∧ n + 2 ≤ W.heap.size ∧ W.cell? ⟨n, 0, none⟩ = some (.int .i64 d) ∧ W.cell? ⟨n, 1, none⟩ = some (.int .i64 i) ∧ W.cell? ⟨n, 2, none⟩ = some (.int .i64 s) ∧
    W.cell? ⟨n + 1, 0, none⟩ = some (.int .i64 d') ∧ W.cell? ⟨n + 1, 1, none⟩ = some (.int .i64 i') ∧ W.cell? ⟨n + 1, 2, none⟩ = some (.int .i64 s')) (first | assumption | exact ⟨by assumption, by assumption, by assumption, by assumption, by assumption, by assumption, by assumption, by assumption⟩ | exact TwoUp.step ⟨by assumption, by assumption, by assumption, by assumption, by assumption, by assumption, by assumption, by assumption⟩ (UpN.alloc (UpN.refl _ _) (Nat.le_refl _) _) | exact TwoUp.step ⟨by assumption, by assumption, by assumption, by assumption, by assumption, by assumption, by assumption, by assumption⟩ (UpN.drew (UpN.refl _ _))) ((first | (go_at_call 106; refine (C1.out n _ (by first | assumption | exact ⟨by assumption, by assumption, by assumption, by assumption, by assumption, by assumption, by assumption, by assumption⟩)).mono ?_; rintro e w1 ⟨rfl, s0, s1, s2, s3, s4, s5, s6, s7⟩) | (go_at_call 121; refine (C2.out _).mono ?_; rintro e w1 ⟨rfl, rfl⟩) | (go_at_call 120; refine (C3.out _ _ _ _ (Rd.fresh _ _ _ 2 rfl)).mono ?_; rintro e w1 ⟨rfl, rfl⟩)))
  refine (by assumption : ∀ (a : Act) (w : World), _ → _) _ _ ?_
  go_wp2
  go_ret
  have hz := (by assumption : UpN n w _ ∧ n + 2 ≤ _ ∧ _)
  exact ⟨rfl, hn ▸ hz.1⟩
end Go.Proofs.Ytailbppddnegoaa
