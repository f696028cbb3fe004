/- Layer 16 (dot): Compare, order, Less, Next. -/
import Derived.Test.YtailbppddnegoaaD1
import Derived.StillTailTactics
namespace Go.Proofs.Ytailbppddnegoaa
open Go.RowKit
set_option linter.unusedVariables false
set_option maxRecDepth 100000

theorem stillL {P : Program} {f : FuncId} {args : Array Value} {w : World} {v : Value}
    (h : Calls P f args w fun e w' => e = .returned v ∧ w = w') : Calls P f args w fun e w'' => e = .returned v ∧ w'' = w :=
  h.mono fun _ _ ⟨he, hm⟩ => ⟨he, hm.symm⟩
/-- Two boxes, one behind the other. -/
def Boxes (w W : World) (t : TypeId) (xs ys : Array Value) : Prop :=
  Below w.heap.size w W ∧ W.heap.size = w.heap.size + 2 ∧ Whole W w.heap.size t xs ∧ Whole W (w.heap.size + 1) t ys
theorem boxes_new (w : World) (t : TypeId) (xs ys : Array Value) : Boxes w ((w.alloc (.cells xs t)).alloc (.cells ys t)) t xs ys := by
  refine ⟨((Below.refl _ _).alloc (Nat.le_refl _) _).alloc (by simp) _, by simp, (Whole.new w t xs).alloc _, ?_⟩
  have := Whole.new (w.alloc (.cells xs t)) t ys
  simpa using this
theorem compare_any (d i d' i' : Int) (w : World) : Calls Try.prog 106 #[actV d i, actV d' i'] w fun e w' => e = .returned (.int .i64 (orI (cmpI d d') (cmpI i i'))) ∧ Below w.heap.size w w' := by
  have C1 := Lib.hid (fun w => cmpc_any d d' w)
  have C2 := Lib.hid (fun w => cmpc_any i i' w)
  have C3 := Lib.hid (fun g c B w hr => or2_any (cmpI d d') (cmpI i i') g c B w hr)
  generalize cmpI d d' = x at *
  generalize cmpI i i' = y at *
  unfold actV
  have hB := boxes_new w 25 #[.int .i64 d, .int .i64 i] #[.int .i64 d', .int .i64 i']
  have hBH := Lib.hid hB
  clear hB
  go_enter Try.func106, Try.ntmps106
  go_wp2_with fail
  obtain ⟨hb, hs, h1, h2⟩ := hBH.out
  have hBl := Lib.hid hb
  clear hb hBH
  generalize (w.alloc (.cells #[.int .i64 d, .int .i64 i] 25)).alloc (.cells #[.int .i64 d', .int .i64 i'] 25) = W at *
  have c0 : W.cell? ⟨w.heap.size, 0, none⟩ = some (.int .i64 d) := by rw [h1.cell]; rfl
  have c1 : W.cell? ⟨w.heap.size, 1, none⟩ = some (.int .i64 i) := by rw [h1.cell]; rfl
  have c2 : W.cell? ⟨w.heap.size + 1, 0, none⟩ = some (.int .i64 d') := by rw [h2.cell]; rfl
  have c3 : W.cell? ⟨w.heap.size + 1, 1, none⟩ = some (.int .i64 i') := by rw [h2.cell]; rfl
  go_still_tail 10, (by kernel_rfl)
  still_call (stillL (C1.out _))
  repeat still_step
  still_call (stillL (C2.out _))
  repeat still_step
  refine wpStill_nil ?_
  change wpList _ _ _ _ _ W.drew
  clear c0 c1 c2 c3 h1 h2
  have hBl2 := Lib.hid (hBl.out.drew)
  clear hBl
  generalize W.drew = W2 at *
  go_wp2_with fail
  refine (C3.out W2.heap.size 2 _ _ (Rd.fresh _ _ _ 2 rfl)).mono ?_; rintro e w3 ⟨rfl, rfl⟩
  go_wp2
  go_ret
  exact ⟨rfl, hBl2.out.alloc hBl2.out.size _⟩
/-- Which of two dots is ahead. -/
def ordI (d i s d' i' s' : Int) : Int := orI (orI (cmpI d d') (cmpI i i')) (cmpI s s')
/-- Two boxed dots, as cells. -/
def TwoDots (n : Nat) (d i s d' i' s' : Int) (w W : World) : Prop :=
  Below n w W ∧ n + 2 ≤ W.heap.size ∧ W.cell? ⟨n, 0, none⟩ = some (.int .i64 d) ∧ W.cell? ⟨n, 1, none⟩ = some (.int .i64 i) ∧ W.cell? ⟨n, 2, none⟩ = some (.int .i64 s) ∧
    W.cell? ⟨n + 1, 0, none⟩ = some (.int .i64 d') ∧ W.cell? ⟨n + 1, 1, none⟩ = some (.int .i64 i') ∧ W.cell? ⟨n + 1, 2, none⟩ = some (.int .i64 s')
theorem TwoDots.step {n : Nat} {d i s d' i' s' : Int} {w W W' : World} (h : TwoDots n d i s d' i' s' w W) (b : Below W.heap.size W W') : TwoDots n d i s d' i' s' w W' := by
  obtain ⟨h0, h1, c0, c1, c2, c3, c4, c5⟩ := h
  have hb := b.size
  refine ⟨h0.trans (below_of_le b (by omega)), by omega, ?_, ?_, ?_, ?_, ?_, ?_⟩
  all_goals
    rw [b.cell (by simp only; omega)]
    assumption
theorem TwoDots.new (w : World) (d i s d' i' s' : Int) (t : TypeId) : TwoDots w.heap.size d i s d' i' s' w ((w.alloc (.cells #[.int .i64 d, .int .i64 i, .int .i64 s] t)).alloc (.cells #[.int .i64 d', .int .i64 i', .int .i64 s'] t)) := by
  obtain ⟨h0, h1, h2, h3⟩ := boxes_new w t #[.int .i64 d, .int .i64 i, .int .i64 s] #[.int .i64 d', .int .i64 i', .int .i64 s']
  refine ⟨h0, by omega, ?_, ?_, ?_, ?_, ?_, ?_⟩
  all_goals first | (rw [h2.cell]; rfl) | (rw [h3.cell]; rfl)
theorem order_any (d i s d' i' s' : Int) (w : World) : Calls Try.prog 92 #[dotV d i s, dotV d' i' s'] w fun e w' => e = .returned (.int .i64 (ordI d i s d' i' s')) ∧ Below w.heap.size w w' := by
  have C1 := Lib.hid (fun n W (h : TwoDots n d i s d' i' s' w W) => (compare_any d i d' i' W).mono fun e w' (h' : e = _ ∧ Below W.heap.size W w') => And.intro h'.1 (h.step h'.2))
  have C2 := Lib.hid (fun w => cmpc_any s s' w)
  have C3 := Lib.hid (fun g c B w hr => or2_any (orI (cmpI d d') (cmpI i i')) (cmpI s s') g c B w hr)
  unfold ordI
  generalize orI (cmpI d d') (cmpI i i') = x at *
  generalize cmpI s s' = y at *
  unfold actV at C1
  unfold dotV
  have hB := Lib.hid (TwoDots.new w d i s d' i' s' 27)
  go_enter Try.func92, Try.ntmps92
  go_wp2_with fail
  have hT := hB.out
  clear hB
  generalize (w.alloc (.cells #[.int .i64 d, .int .i64 i, .int .i64 s] 27)).alloc (.cells #[.int .i64 d', .int .i64 i', .int .i64 s'] 27) = W at *
  generalize hn : w.heap.size = n at *
  obtain ⟨h0, h1, c0, c1, c2, c3, c4, c5⟩ := hT
  go_region_held3 (fun W => Below n w W ∧ n + 2 ≤ W.heap.size ∧ W.cell? ⟨n, 0, none⟩ = some (.int .i64 d) ∧ W.cell? ⟨n, 1, none⟩ = some (.int .i64 i) ∧ W.cell? ⟨n, 2, none⟩ = some (.int .i64 s) ∧
    W.cell? ⟨n + 1, 0, none⟩ = some (.int .i64 d') ∧ W.cell? ⟨n + 1, 1, none⟩ = some (.int .i64 i') ∧ W.cell? ⟨n + 1, 2, none⟩ = some (.int .i64 s')) (first | assumption | exact ⟨by assumption, by assumption, by assumption, by assumption, by assumption, by assumption, by assumption, by assumption⟩ | exact TwoDots.step ⟨by assumption, by assumption, by assumption, by assumption, by assumption, by assumption, by assumption, by assumption⟩ (Below.alloc (Below.refl _ _) (Nat.le_refl _) _) | exact TwoDots.step ⟨by assumption, by assumption, by assumption, by assumption, by assumption, by assumption, by assumption, by assumption⟩ (Below.drew (Below.refl _ _))) ((first | (go_at_call 106; refine (C1.out n _ (by first | assumption | exact ⟨by assumption, by assumption, by assumption, by assumption, by assumption, by assumption, by assumption, by assumption⟩)).mono ?_; rintro e w1 ⟨rfl, s0, s1, s2, s3, s4, s5, s6, s7⟩) | (go_at_call 121; refine (C2.out _).mono ?_; rintro e w1 ⟨rfl, rfl⟩) | (go_at_call 120; refine (C3.out _ _ _ _ (Rd.fresh _ _ _ 2 rfl)).mono ?_; rintro e w1 ⟨rfl, rfl⟩)))
  refine (by assumption : ∀ (a : Act) (w : World), _ → _) _ _ ?_
  go_wp2
  go_ret
  have hz := (by assumption : Below n w _ ∧ n + 2 ≤ _ ∧ _)
  exact ⟨rfl, hn ▸ hz.1⟩
/-- The document's 'Ahead' and 'Less'. -/
def aheadB (d i d' i' : Int) : Bool := if d = d' then decide (i < i') else decide (d < d')
def rlessB (d i s d' i' s' : Int) : Bool := if d = d' ∧ i = i' then decide (s < s') else aheadB d i d' i'
theorem rahead_any (d i d' i' : Int) (w : World) : Calls Try.prog 105 #[actV d i, actV d' i'] w fun e w' => e = .returned (.bool (aheadB d i d' i')) ∧ Below w.heap.size w w' := by
  unfold aheadB actV
  have hB := Lib.hid (boxes_new w 25 #[.int .i64 d, .int .i64 i] #[.int .i64 d', .int .i64 i'])
  by_cases h : d = d'
  · subst h
    have t1 : (d == d) = true := by simp
    rw [if_pos rfl]
    go_enter Try.func105, Try.ntmps105
    go_wp2
    go_ret
    exact ⟨rfl, hB.out.1⟩
  · have t1 : (d == d') = false := by simp; exact h
    rw [if_neg h]
    clear h
    go_enter Try.func105, Try.ntmps105
    go_wp2
    go_ret
    exact ⟨rfl, hB.out.1⟩
end Go.Proofs.Ytailbppddnegoaa
