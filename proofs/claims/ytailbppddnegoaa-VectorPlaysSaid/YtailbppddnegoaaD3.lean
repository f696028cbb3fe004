/- Layer 16 (dot): equality of actors and dots; the document's Less; Next. -/
import Derived.Test.YtailbppddnegoaaD2
import Derived.Laws.StructEq
namespace Go.Proofs.Ytailbppddnegoaa
open Go.RowKit
set_option linter.unusedVariables false
set_option maxRecDepth 100000

theorem eqIn_act (k : Nat) (d i d' i' : Int) (w : World) : (Op.equalIn (k + 2) 25 (actV d i) (actV d' i')).run Try.prog w = .ok (decide (d = d' ∧ i = i')) w := by
  unfold actV
  rw [run_equalIn_agg w (k + 1) _ _ _ (by kernel_rfl) (by kernel_rfl)]
  by_cases h1 : d = d' <;> by_cases h2 : i = i' <;> simp [Program.fieldsOf, Try.underlying25, Op.eqFields, go_sem, Try.underlying3, h1, h2]
theorem eqIn_dot (k : Nat) (d i s d' i' s' : Int) (w : World) : (Op.equalIn (k + 3) 27 (dotV d i s) (dotV d' i' s')).run Try.prog w = .ok (decide (d = d' ∧ i = i' ∧ s = s')) w := by
  have h := fun w => eqIn_act k d i d' i' w
  unfold actV at h
  unfold dotV
  rw [run_equalIn_agg w (k + 2) _ _ _ (by kernel_rfl) (by kernel_rfl)]
  by_cases h1 : d = d' <;> by_cases h2 : i = i' <;> by_cases h3 : s = s' <;> simp [Program.fieldsOf, Try.underlying27, Op.eqFields, go_sem, Try.underlying3, h, h1, h2, h3]
theorem neq_act (d i d' i' : Int) (w : World) : (binOp .neq 25 (actV d i) (actV d' i')).run Try.prog w = .ok (.bool (!decide (d = d' ∧ i = i'))) w := by
  have h := eqIn_act 9998 d i d' i' w
  unfold actV at h ⊢
  rw [run_neq_struct, h]
  rfl
theorem eql_act (d i d' i' : Int) (w : World) : (binOp .eql 25 (actV d i) (actV d' i')).run Try.prog w = .ok (.bool (decide (d = d' ∧ i = i'))) w := by
  have h := eqIn_act 9998 d i d' i' w
  unfold actV at h ⊢
  rw [run_eql_struct, h]
  rfl
theorem neq_dot (d i s d' i' s' : Int) (w : World) : (binOp .neq 27 (dotV d i s) (dotV d' i' s')).run Try.prog w = .ok (.bool (!decide (d = d' ∧ i = i' ∧ s = s'))) w := by
  have h := eqIn_dot 9997 d i s d' i' s' w
  unfold dotV at h ⊢
  rw [run_neq_struct, h]
  rfl
theorem eql_dot (d i s d' i' s' : Int) (w : World) : (binOp .eql 27 (dotV d i s) (dotV d' i' s')).run Try.prog w = .ok (.bool (decide (d = d' ∧ i = i' ∧ s = s'))) w := by
  have h := eqIn_dot 9997 d i s d' i' s' w
  unfold dotV at h ⊢
  rw [run_eql_struct, h]
  rfl
theorem rdless_any (d i s d' i' s' : Int) (w : World) : Calls Try.prog 93 #[dotV d i s, dotV d' i' s'] w fun e w' => e = .returned (.bool (rlessB d i s d' i' s')) ∧ Below w.heap.size w w' := by
  have C1 := Lib.hid (fun w => rahead_any d i d' i' w)
  have hn := fun w => neq_act d i d' i' w
  unfold rlessB
  unfold actV at C1 hn
  unfold dotV
  have hB := Lib.hid (TwoDots.new w d i s d' i' s' 27)
  by_cases h : d = d' ∧ i = i'
  · rw [if_pos h]
    simp only [h, decide_true, Bool.not_true, and_self] at hn
    obtain ⟨rfl, rfl⟩ := h
    go_enter Try.func93, Try.ntmps93
    go_wp2_with fail
    go_ret
    exact ⟨rfl, hB.out.1⟩
  · rw [if_neg h]
    simp only [h, decide_false, Bool.not_false] at hn
    generalize aheadB d i d' i' = q at *
    go_enter Try.func93, Try.ntmps93
    go_wp2_with fail
    refine (C1.out _).mono ?_; rintro e w1 ⟨rfl, b1⟩
    go_wp2
    go_ret
    exact ⟨rfl, hB.out.1.trans (below_of_le b1 (by simp; omega))⟩
end Go.Proofs.Ytailbppddnegoaa
