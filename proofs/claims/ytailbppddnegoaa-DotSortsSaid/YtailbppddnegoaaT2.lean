/- Numbers' texts: the document's Text. -/
import Derived.Test.YtailbppddnegoaaT1
namespace Go.Proofs.Ytailbppddnegoaa
open Go.RowKit
set_option linter.unusedVariables false
set_option maxRecDepth 100000

theorem digL_pos (n : Nat) : 1 ≤ (digL n).length := by
  by_cases h : n < 10
  · rw [digL_small h]; simp
  · rw [digL_big (by omega)]; simp
end Go.Proofs.Ytailbppddnegoaa
