/- The opener of a [2]int. -/
import Derived.Test.YtailbppddnegoaaO
import Derived.Lib.SmallJoins
namespace Go.Proofs.Ytailbppddnegoaa
open Go.ChangeShapes Go.WideShapes Go.ChangeAt Go.RowKit
set_option linter.unusedVariables false
set_option maxRecDepth 100000

/-- What the walk is told of a [2]int. -/
def IsArr2 (v : Value) : Prop := ∃ a b : Int, v = .agg #[.int .i64 a, .int .i64 b] ∧ (-9223372036854775808 ≤ a ∧ a ≤ 9223372036854775807) ∧ (-9223372036854775808 ≤ b ∧ b ≤ 9223372036854775807)
theorem open_arr2int {H : Type} {enc : TypeId × Value → H} {W : World} {base : Nat} {v : Value} {d : DataW H} {p : List MemPlace} (hv : Value.okWide Try.prog W .any base 86 v)
    (h : DataW.Trod enc Try.prog W 0 (fun _ => true) true 86 v d p) : IsArr2 v := by
  have hC : Try.prog.cellsOf 86 = 2 := by kernel_rfl
  have hC1 : Try.prog.cellsOf 3 = 1 := by kernel_rfl
  unfold Value.okWide at hv
  rw [Try.underlying86] at hv
  obtain ⟨cs, rfl, hsz, _⟩ := hv
  obtain ⟨c0, c1, rfl⟩ := Joins.array2 (hsz.trans hC)
  obtain ⟨fuel, hf⟩ := h
  obtain ⟨xs, m, _, _, _, hxl, hx⟩ := DataW.trod_array Try.underlying86 hf
  have h0 := hx 0 (by omega)
  have h1 := hx 1 (by omega)
  rw [hC1] at h0 h1
  rw [List.getElem?_eq_getElem (by omega)] at h0 h1
  obtain ⟨a, e0, _, w0⟩ := DataW.trod_int Try.underlying3 h0
  obtain ⟨b, e1, _, w1⟩ := DataW.trod_int Try.underlying3 h1
  simp [Value.cells] at e0 e1
  subst e0 e1
  exact ⟨a, b, rfl, bounds_i64 w0, bounds_i64 w1⟩
end Go.Proofs.Ytailbppddnegoaa
