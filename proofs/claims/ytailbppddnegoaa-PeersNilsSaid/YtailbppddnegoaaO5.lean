/- The opener of an api.Dot. -/
import Derived.Test.YtailbppddnegoaaO
import Derived.Test.YtailbppddnegoaaDD
import Derived.Lib.SmallJoins
namespace Go.Proofs.Ytailbppddnegoaa
open Go.ChangeShapes Go.WideShapes Go.ChangeAt Go.RowKit
set_option linter.unusedVariables false
set_option maxRecDepth 100000

/-- What the walk is told of a dot. -/
def IsDot (v : Value) : Prop := ∃ d i s : Int, v = dotV d i s ∧ i64B d ∧ i64B i ∧ i64B s
theorem dot_of_trod {H : Type} {enc : TypeId × Value → H} {W : World} {fuel : Nat} {cs : List Value} {x : DataW H × List MemPlace}
    (hf : DataW.trod enc Try.prog W 0 (fun _ => true) true fuel 27 cs = some x) : ∃ d i s : Int, cs = [.int .i64 d, .int .i64 i, .int .i64 s] ∧ i64B d ∧ i64B i ∧ i64B s := by
  have hC : Try.prog.cellsOf 27 = 3 := by kernel_rfl
  have hCA : Try.prog.cellsOf 25 = 2 := by kernel_rfl
  have hC1 : Try.prog.cellsOf 3 = 1 := by kernel_rfl
  obtain ⟨y0, y1, n, _, hl, h0, h1⟩ := trod_struct2 Try.underlying27 hf
  rw [hC] at hl
  obtain ⟨c0, c1, c2, rfl⟩ : ∃ a b c, cs = [a, b, c] := by
    match cs, hl with
    | [a, b, c], _ => exact ⟨a, b, c, rfl⟩
  simp only [hCA, hC1] at h0 h1
  obtain ⟨z0, z1, n', _, hl', g0, g1⟩ := trod_struct2 Try.underlying25 h0
  simp only [hC1] at g0 g1
  obtain ⟨a, e0, _, w0⟩ := DataW.trod_int Try.underlying3 g0
  obtain ⟨b, e1, _, w1⟩ := DataW.trod_int Try.underlying3 g1
  obtain ⟨c, e2, _, w2⟩ := DataW.trod_int Try.underlying3 h1
  simp at e0 e1 e2
  subst e0 e1 e2
  exact ⟨a, b, c, rfl, bounds_i64 w0, bounds_i64 w1, bounds_i64 w2⟩
theorem open_dot {H : Type} {enc : TypeId × Value → H} {W : World} {base : Nat} {v : Value} {d : DataW H} {p : List MemPlace} (hv : Value.okWide Try.prog W .any base 27 v)
    (h : DataW.Trod enc Try.prog W 0 (fun _ => true) true 27 v d p) : IsDot v := by
  obtain ⟨cs, rfl, hsz⟩ := okWide_struct Try.underlying27 hv
  obtain ⟨fuel, hf⟩ := h
  obtain ⟨a, b, c, e, ha, hb, hc⟩ := dot_of_trod hf
  refine ⟨a, b, c, ?_, ha, hb, hc⟩
  unfold dotV
  congr 1
  apply Array.ext'
  simpa [Value.cells] using e
end Go.Proofs.Ytailbppddnegoaa
